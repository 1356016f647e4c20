/-
  Contracts: package diagnose: Mean, Auto. Contracts: package diagnose: Batches. Contracts: the reference's fractions: lowest terms. Contracts: the reference's fractions: sums, differences, products, quotients, order. Contracts: the reference's shares: in, out, made, valid; fractions of integers. Contracts: the laws' own helpers: shares of integers, lists of them. Shares compared. Contracts: the laws' own helpers: is, fails, is2. Contracts: slices.Equal over shares. Contracts: drafts of numbers. Contracts: the law's small: some bool. Contracts: the reference's valid shares. Contracts: the reference's chapter 35: chains, means, autocovariances. Contracts: the reference's chapter 35: Batches. Contracts: the laws' helpers: lists cut, cloned and made longer.
-/
import Derived.Test.YthbkinefgmfgeaaGreatDiagnoseRatiosAk
import Derived.Test.YthbkinefgmfgeaaGreatDiagnoseRatiosAj
import Derived.Test.YthbkinefgmfgeaaGreatDiagnoseRatiosAi
import Derived.Test.YthbkinefgmfgeaaGreatDiagnoseRatiosAh
import Derived.Test.YthbkinefgmfgeaaGreatDiagnoseRatiosAf
set_option linter.unusedVariables false
set_option linter.unusedSimpArgs false
set_option linter.defProp false
set_option linter.deprecated false
/-! Contracts: package diagnose: Mean, Auto. -/
namespace Go.Id
open Go
noncomputable def toldV (q:Rat):Value:=open Classical in if QW q then .tuple #[shareV q,KI 0] else .tuple #[shV 0 0,KI 6]
theorem toldV_form (q:Rat) : ∃n d e,toldV q=.tuple #[shV n d,KI e]:=by
 unfold toldV
 by_cases h:QW q
 ·exact⟨_,_,0,by rw[if_pos h]⟩
 ·exact⟨0,0,6,by rw[if_neg h]⟩
abbrev errV (e:Int):Value:=.tuple #[shV 0 0,KI e]
theorem chErr_iff {l:List (Nat×Nat)}:chErr l=0↔l.length≤200∧allOk l∧l ≠ []:=by
 unfold chErr
 constructor
 ·intro h
  split at h
  ·omega
  ·split at h
   ·omega
   ·split at h
    ·omega
    ·rename_i h1 h2 h3
     exact⟨by omega,Classical.not_not.1 h2,fun h0=>h3 (by rw[h0];rfl)⟩
 ·rintro⟨h1,h2,h3⟩
  rw[if_neg (by omega),if_neg (by simpa using h2),if_neg (fun h=>h3 (List.length_eq_zero_iff.1 h))]
theorem chErr_range (l:List (Nat×Nat)):0≤chErr l∧chErr l≤20:=by
 unfold chErr
 split
 ·omega
 ·split
  ·omega
  ·split<;>omega
noncomputable def meanRes (l:List (Nat×Nat)):Value:=if chErr l=0 then toldV (qmean (l.map rOf)) else errV (chErr l)
noncomputable def autoRes (l:List (Nat×Nat)) (lag:Int):Value:=if chErr l=0 then (if 0≤lag∧lag<l.length then toldV (qauto (l.map rOf) (qmean (l.map rOf)) lag.toNat) else errV 2) else errV (chErr l)
abbrev mBits (n k:Nat):Nat:=n*(k+1)+17
abbrev aBits (n k:Nat):Nat:=n*(k+mBits n k+1+(k+mBits n k+1)+1)+17
theorem mle_a (n k:Nat):mBits n k≤aBits n k:=by
 have:n*(k+1)≤n*(k+mBits n k+1+(k+mBits n k+1)+1):=Nat.mul_le_mul_left _ (by omega)
 unfold aBits mBits at *
 omega
set_option maxHeartbeats 1000000 in
theorem dgMean_ok {h:IH} {v:Value} {l:List (Nat×Nat)} (hv:ShSl h v l) {k:Nat} (hk:allOk l → ∀q∈l.map rOf,QB k q) (hb:l.length≤200→mBits l.length k<16000000) :
  WV Proofs.Tryz.prog (.func (.func 21) #[] #[]) [v] h fun r h'=>Ext h h'∧r=meanRes l:=by
 have her:=chErr_range l
 refine enter (nt:=18) (rs:=[.cell 2 30,.tmp 3]) Proofs.Tryz.func21 rfl rfl rfl (by simp) ?_
 simp -dsimp (disch:=omega) only[wpS,Nat.reduceEqDiff,zc30]
 have E1:Ext h (h.new (.cells Z16 0 none)):=(Ext.refl h).new _
 have g1:(h.new (.cells Z16 0 none)).ext.get h.n=some (.cells Z16 0 none):=by simp (disch:=first|omega|(simp only[new_n,put_n];omega)|(repeat first|rw[new_n]|rw[put_n])) only[get_new_same]
 refine call (dgcheck_ok (hv.keep E1.keep)) ?_
 rintro _ h1 ⟨X1,rfl⟩
 have m1:=X1.n
 simp only[new_n] at m1
 have k1:=X1.kept (by simp) g1
 unfold meanRes
 by_cases he:chErr l=0
 ·rw[if_pos he,he]
  obtain⟨e1,e2,e3⟩:=chErr_iff.1 he
  simp -dsimp (disch:=omega) only[wpS,wpT,Nat.reduceEqDiff]
  refine call (chain_ok (hv.keep (E1.trans X1).keep) e2 (by omega) e3 (hk e2) (hb e1)) ?_
  rintro _ h2 ⟨X2,s,a1,s1,b1,t1,rfl,hs,hc⟩
  have m2:=X2.n
  simp -dsimp (disch:=omega) only[wpS,Nat.reduceEqDiff,fp107_0,Bool.false_eq_true]
  refine call (mean_ok hs (by simpa using e3) (hk e2) (by rw[List.length_map];exact hb e1)) ?_
  rintro r3 h3 ⟨X3,p3⟩
  have m3:=X3.n
  simp -dsimp (disch:=omega) only[wpS,Nat.reduceEqDiff]
  refine call (rtold_ok p3) ?_
  rintro _ h4 ⟨X4,rfl⟩
  have m4:=X4.n
  have kg:=X4.kept (by omega) (X3.kept (by omega) (X2.kept (by omega) k1))
  obtain⟨n,d,e,hf⟩:=toldV_form (qmean (l.map rOf))
  have hf':=hf
  unfold toldV at hf'
  rw[hf',hf]
  simp -dsimp (disch:=omega) only[wpS,wpT,Nat.reduceEqDiff,Nat.reduceLeDiff,Nat.reduceAdd,st30,ld30,kg,shV_cells,shC_len,shC_all,sh_sp3,sh_take]
  exact⟨((((E1.trans X1).trans X2).trans X3).trans X4).put (by omega) _,rfl⟩
 ·rw[if_neg he]
  have he':(chErr l == 0)=false:=by simpa using he
  simp -dsimp (disch:=omega) only[wpS,wpT,Nat.reduceEqDiff,Nat.reduceLeDiff,Nat.reduceAdd,bv30,st30,ld30,k1,sh_tz]
  exact⟨(E1.trans X1).put (by omega) _,by rw[sh_zeroV]⟩
set_option maxHeartbeats 1000000 in
theorem dgAuto_ok {h:IH} {v:Value} {l:List (Nat×Nat)} {lag:Int} (hv:ShSl h v l) {k:Nat} (hk:allOk l → ∀q∈l.map rOf,QB k q) (hb:l.length≤200→aBits l.length k<16000000) :
  WV Proofs.Tryz.prog (.func (.func 23) #[] #[]) [v,KI lag] h fun r h'=>Ext h h'∧r=autoRes l lag:=by
 have her:=chErr_range l
 refine enter (nt:=29) (rs:=[.cell 4 30,.tmp 5]) Proofs.Tryz.func23 rfl rfl rfl (by simp) ?_
 simp -dsimp (disch:=omega) only[wpS,Nat.reduceEqDiff,Nat.reduceAdd,zc30]
 have E1:Ext h (h.new (.cells Z16 0 none)):=(Ext.refl h).new _
 have g1:(h.new (.cells Z16 0 none)).ext.get h.n=some (.cells Z16 0 none):=by simp (disch:=first|omega|(simp only[new_n,put_n];omega)|(repeat first|rw[new_n]|rw[put_n])) only[get_new_same]
 refine call (dgcheck_ok (hv.keep E1.keep)) ?_
 rintro _ h1 ⟨X1,rfl⟩
 have m1:=X1.n
 simp only[new_n] at m1
 have k1:=X1.kept (by simp) g1
 unfold autoRes
 by_cases he:chErr l=0
 ·rw[if_pos he,he]
  obtain⟨e1,e2,e3⟩:=chErr_iff.1 he
  by_cases hl:0≤lag∧lag<l.length
  ·rw[if_pos hl]
   obtain⟨j,rfl⟩:=Int.eq_ofNat_of_zero_le hl.1
   have hj:j<l.length:=by omega
   have c1:decide ((j:Int)<0)=false:=decide_eq_false (by omega)
   have c2:decide ((l.length:Int)≤(j:Int))=false:=decide_eq_false (by omega)
   simp -dsimp (disch:=omega) only[wpS,wpT,Nat.reduceEqDiff,hv.1.len sl25,c1,c2]
   refine call (chain_ok (hv.keep (E1.trans X1).keep) e2 (by omega) e3 (hk e2) (Nat.lt_of_le_of_lt (mle_a _ _) (hb e1))) ?_
   rintro r2 h2 ⟨X2,hr⟩
   have m2:=X2.n
   simp -dsimp (disch:=omega) only[wpS,Nat.reduceEqDiff]
   have hmb:=qmean_bits (l:=l.map rOf) (by simpa using e3) (by simp;omega) (hk e2)
   rw[List.length_map] at hmb
   refine call (auto_ok hr (by rw[List.length_map];exact hj) (hk e2) hmb (by rw[List.length_map];exact hb e1)) ?_
   rintro r3 h3 ⟨X3,p3⟩
   have m3:=X3.n
   simp -dsimp (disch:=omega) only[wpS,Nat.reduceEqDiff]
   refine call (rtold_ok p3) ?_
   rintro _ h4 ⟨X4,rfl⟩
   have m4:=X4.n
   have kg:=X4.kept (by omega) (X3.kept (by omega) (X2.kept (by omega) k1))
   rw[Int.toNat_natCast]
   obtain⟨n,d,e,hf⟩:=toldV_form (qauto (l.map rOf) (qmean (l.map rOf)) j)
   have hf':=hf
   unfold toldV at hf'
   rw[hf',hf]
   simp -dsimp (disch:=omega) only[wpS,wpT,Nat.reduceEqDiff,Nat.reduceLeDiff,Nat.reduceAdd,st30,ld30,kg,shV_cells,shC_len,shC_all,sh_sp3,sh_take]
   exact⟨((((E1.trans X1).trans X2).trans X3).trans X4).put (by omega) _,rfl⟩
  ·rw[if_neg hl]
   by_cases hneg:lag<0
   ·have c1:decide (lag<0)=true:=decide_eq_true hneg
    simp -dsimp (disch:=omega) only[wpS,wpT,Nat.reduceEqDiff,Nat.reduceLeDiff,Nat.reduceAdd,bv30,st30,ld30,c1,k1,sh_tz]
    exact⟨(E1.trans X1).put (by omega) _,by rw[sh_zeroV]⟩
   ·have c1:decide (lag<0)=false:=decide_eq_false hneg
    have c2:decide ((l.length:Int)≤lag)=true:=decide_eq_true (by omega)
    simp -dsimp (disch:=omega) only[wpS,wpT,Nat.reduceEqDiff,Nat.reduceLeDiff,Nat.reduceAdd,bv30,st30,ld30,hv.1.len sl25,c1,c2,k1,sh_tz]
    exact⟨(E1.trans X1).put (by omega) _,by rw[sh_zeroV]⟩
 ·rw[if_neg he]
  have he':(chErr l == 0)=false:=by simpa using he
  simp -dsimp (disch:=omega) only[wpS,wpT,Nat.reduceEqDiff,Nat.reduceLeDiff,Nat.reduceAdd,bv30,st30,ld30,k1,sh_tz]
  exact⟨(E1.trans X1).put (by omega) _,by rw[sh_zeroV]⟩
end Go.Id

/-! Contracts: package diagnose: Batches. -/
namespace Go.Id
open Go
def shOf (q:Rat):Nat×Nat:=(wideN q.num,wideN (q.den:Int))
theorem shOf_lt {q:Rat} (h:QW q):(shOf q).1<W8∧(shOf q).2<W8:=⟨wideN_lt h.1,wideN_lt h.2⟩
def bmean (l:List Rat) (sz j:Nat):Rat:=qmean ((l.drop (j*sz)).take sz)
def bmeans (l:List Rat) (sz:Nat):List Rat:=(List.range (l.length / sz)).map (bmean l sz)
noncomputable def batErr (l:List (Nat×Nat)) (sz:Int):Int:=open Classical in if chErr l=0 then (if 1≤sz∧sz≤l.length then (if ∀q∈bmeans (l.map rOf) sz.toNat,QW q then 0 else 6) else 2) else chErr l
theorem bmeans_len (l:List Rat) (sz:Nat):(bmeans l sz).length=l.length / sz:=by simp[bmeans]
theorem bmeans_at {l:List Rat} {sz j:Nat} (h:j<l.length / sz):(bmeans l sz)[j]?=some (bmean l sz j):=by simp[bmeans,h]
theorem shL_snoc (l:List (Nat×Nat)) (p:Nat×Nat):shL (l ++ [p])=shL l ++ shC p.1 p.2:=by simp[shL]
theorem Acc.putLoop {h:IH} {n0 sz:Nat} {v:Value} {n:Nat} {cs:List Value} (a:Acc h n0 sz v n cs) {k:Nat} {r:ILoop} (hr:h.ext.get k=some (.loop r)) (o:IObj):Acc (h.put k o) n0 sz v n cs:=by
 obtain⟨hz,hl,a|⟨kk,fam,rfl,hn,q1,q2,q3,q4⟩⟩:=a
 ·exact⟨hz,hl,.inl a⟩
 ·refine⟨hz,hl,.inr ⟨kk,fam,rfl,hn,q1,q2,?_,?_⟩⟩
  ·rw[get_put_old _ _ (by rintro rfl;rw[hr] at q3;cases q3)];exact q3
  ·cases fam<;>exact q4
set_option maxHeartbeats 8000000 in
theorem dgBatches_ok {h:IH} {v:Value} {l:List (Nat×Nat)} {size:Int} (hv:ShSl h v l) {k:Nat} (hk:allOk l → ∀q∈l.map rOf,QB k q) (hb:l.length≤200→mBits l.length k<16000000) :
  WV Proofs.Tryz.prog (.func (.func 20) #[] #[]) [v,KI size] h fun r h'=>Ext h h' ∧ ∃s,r=.tuple #[s,KI (batErr l size)]∧if batErr l size=0 then ShSl h' s ((bmeans (l.map rOf) size.toNat).map shOf) else s=.slice none 0 0:=by
 have her:=chErr_range l
 refine enter (nt:=47) (rs:=[.cell 4 25,.cell 5 40]) Proofs.Tryz.func20 rfl rfl rfl (by simp) ?_
 simp -dsimp (disch:=omega) only[wpS,Nat.reduceEqDiff,Nat.reduceAdd,zc25,zc40]
 obtain⟨H0,hH0,n0,E0,g0,g1,g2⟩:=boxes3 h [KI size] [.slice none 0 0] [KI 0]
 rw[←hH0]
 clear hH0
 refine call (dgcheck_ok (hv.keep E0.keep)) ?_
 rintro _ h1 ⟨X1,rfl⟩
 have m1:=X1.n
 have k0:=X1.kept (by omega) g0
 have k1:=X1.kept (by omega) g1
 have k2:=X1.kept (by omega) g2
 have E1:=E0.trans X1
 have errEnd : ∀(e:Int),e≠0→batErr l size=e → ∀hh:IH,Ext h hh→(Ext h hh ∧ ∃s,Value.tuple #[.slice none 0 0,KI e]=.tuple #[s,KI (batErr l size)]∧if batErr l size=0 then ShSl hh s ((bmeans (l.map rOf) size.toNat).map shOf) else s=.slice none 0 0):=by
  intro e he hbe hh hE
  exact⟨hE,_,by rw[hbe],by rw[if_neg (by rw[hbe];exact he)]⟩
 by_cases he:chErr l=0
 case neg =>
  have hbe:batErr l size=chErr l:=by rw[batErr,if_neg he]
  have he':(chErr l == 0)=false:=by simpa using he
  simp -dsimp (disch:=omega) only[wpS,wpT,Nat.reduceEqDiff,Nat.reduceLeDiff,st25,st40,ld25,ld40,k1,k2]
  exact errEnd _ he hbe _ ((E1.put (by omega) _).put (by omega) _)
 obtain⟨e1,e2,e3⟩:=chErr_iff.1 he
 have hl0:0<l.length:=List.length_pos_iff.2 e3
 have hkk:=hk e2
 have hbb:=hb e1
 rw[he]
 by_cases hsz:1≤size∧size≤l.length
 case neg =>
  have hbe:batErr l size=2:=by rw[batErr,if_pos he,if_neg hsz]
  by_cases hlt:size<1
  ·have c1:decide (size<1)=true:=decide_eq_true hlt
   simp -dsimp (disch:=omega) only[wpS,wpT,Nat.reduceEqDiff,Nat.reduceLeDiff,zc25,st25,st40,ld3,ld25,ld40,row_of k0,k1,k2,c1]
   exact errEnd _ (by omega) hbe _ ((E1.put (by omega) _).put (by omega) _)
  ·have c1:decide (size<1)=false:=decide_eq_false hlt
   have c2:decide ((l.length:Int)<size)=true:=decide_eq_true (by omega)
   simp -dsimp (disch:=omega) only[wpS,wpT,Nat.reduceEqDiff,Nat.reduceLeDiff,zc25,st25,st40,ld3,ld25,ld40,row_of k0,k1,k2,c1,c2,hv.1.len sl25]
   exact errEnd _ (by omega) hbe _ ((E1.put (by omega) _).put (by omega) _)
 obtain⟨sz,rfl⟩:=Int.eq_ofNat_of_zero_le (show 0≤size by omega)
 have hs1:1≤sz:=by omega
 have hs2:sz≤l.length:=by omega
 rw[Int.toNat_natCast] at errEnd ⊢
 have c1:decide ((sz:Int)<1)=false:=decide_eq_false (by omega)
 have c2:decide ((l.length:Int)<(sz:Int))=false:=decide_eq_false (by omega)
 simp -dsimp (disch:=omega) only[wpS,wpT,Nat.reduceEqDiff,zc25,ld3,row_of k0,c1,c2,hv.1.len sl25]
 have x2:Ext h1 (h1.new (.cells [.slice none 0 0] 0 none)):=(Ext.refl h1).new _
 obtain⟨H2,hH2⟩ : ∃H2,H2=h1.new (.cells [.slice none 0 0] 0 none):=⟨_,rfl⟩
 have n2:H2.n=h1.n+1:=by rw[hH2];rfl
 have g7:H2.ext.get h1.n=some (.cells [.slice none 0 0] 0 none):=by rw[hH2];simp (disch:=first|omega|(simp only[new_n,put_n];omega)|(repeat first|rw[new_n]|rw[put_n])) only[get_new_same]
 rw[←hH2] at x2 ⊢
 clear hH2
 have E2:=E1.trans x2
 have j0:=x2.kept (by omega) k0
 have j1:=x2.kept (by omega) k1
 have j2:=x2.kept (by omega) k2
 have X0:=Ext.refl H2
 have L1:load Proofs.Tryz.prog H2 3 (ptr (2*h.n) 0)=some (KN sz):=by
  have r:=row_of j0
  simp -dsimp (disch:=omega) only[wpS,ld3,r]
 refine drawn [(2,[1])] (by kernel_rfl) (by kernel_rfl) rfl ?_
 simp -dsimp (disch:=omega) only[wpS,Nat.reduceEqDiff]
 refine call (read_list_ok (hv.keep E2.keep) e2 (by omega)) ?_
 rintro ls h3 ⟨X3,hls⟩
 have m3:=X3.n
 simp -dsimp (disch:=omega) only[wpS,Nat.reduceEqDiff,ld3,row_of (X3.kept (by omega) j0)]
 refine call (chunk_ok hls.co.1 hs1) ?_
 rintro _ _ ⟨rfl,rfl⟩
 simp -dsimp (disch:=omega) only[wpS]
 have X4:Ext h3 ((h3.new (.cells [ls] 0 none)).new (.cells [KN sz] 0 none)):=((Ext.refl _).new _).new _
 refine⟨by repeat' first|refine wpSteady_c2 ?_ ?_|refine wpSteady_t2 ?_ ?_|exact wpSteady_one rfl rfl rfl rfl (steady_ext (H0:=H2) rfl (by omega) (by assumption) (by assumption) (by with_reducible assumption)),?_⟩
 obtain⟨H4,hH4⟩ : ∃H4,H4=(h3.new (.cells [ls] 0 none)).new (.cells [KN sz] 0 none):=⟨_,rfl⟩
 have n4:H4.n=h3.n+2:=by rw[hH4];rfl
 have gc:H4.ext.get h3.n=some (.cells [ls] 0 none):=by rw[hH4];simp (disch:=first|omega|(simp only[new_n,put_n];omega)|(repeat first|rw[new_n]|rw[put_n])) only[get_new_same,get_new_old]
 have gd:H4.ext.get (h3.n+1)=some (.cells [KN sz] 0 none):=by rw[hH4];simp (disch:=first|omega|(simp only[new_n,put_n];omega)|(repeat first|rw[new_n]|rw[put_n])) only[get_new_same]
 rw[←hH4] at X4 ⊢
 clear hH4
 simp -dsimp (disch:=omega) only[wpS,wpT,Nat.reduceAdd]
 have X24:=X3.trans X4
 have E4:=E2.trans X24
 have hlen:(l.map rOf).length=l.length:=List.length_map ..
 refine range2 (p:=28) (nt:=47) rfl rfl (by decide) (fun r y hfn hnt hbd hy=>?_)
 let C:IH→Prop:=fun hh=>Ext h hh∧Keep h3 hh∧H4.n<hh.n∧hh.ext.get h3.n=some (.cells [ls] 0 none)∧hh.ext.get (h3.n+1)=some (.cells [KN sz] 0 none)∧hh.ext.get h.n=some (.cells [KN sz] 0 none)
 let O:Nat→IH→Prop:=fun j hh=>hh.ext.get (h.n+1)=some (.cells [.slice none 0 0] 0 none)∧hh.ext.get (h.n+1+1)=some (.cells [KI 0] 0 none)∧(∀q∈(bmeans (l.map rOf) sz).take j,QW q) ∧ ∃out,hh.ext.get h1.n=some (.cells [out] 0 none)∧Acc hh h.n 16 out (((bmeans (l.map rOf) sz).take j).map shOf).length (shL (((bmeans (l.map rOf) sz).take j).map shOf))
 let J:Nat→IH→Prop:=fun i hh=>C hh∧hh.ext.get H4.n=some (.loop r) ∧ ∃j,i=j*sz∧j≤l.length / sz∧O j hh
 let D:IH→Prop:=fun hh=>C hh∧(((hh.ext.get H4.n=some (.loop r)∨hh.ext.get H4.n=some (.loop (doneL r (.exit 0))))∧O (l.length / sz) hh)∨(hh.ext.get H4.n=some (.loop (doneL r .ret))∧hh.ext.get (h.n+1)=some (.cells [.slice none 0 0] 0 none)∧hh.ext.get (h.n+1+1)=some (.cells [KI 6] 0 none) ∧ ¬∀q∈bmeans (l.map rOf) sz,QW q))
 have hjsz : ∀j,j≤l.length / sz→j*sz≤l.length:=fun j hj=>Nat.le_trans (Nat.mul_le_mul_right _ hj) (Nat.div_mul_le_self _ _)
 have hend : ∀j,j≤l.length / sz→l.length<j*sz+sz→j=l.length / sz:=by
  intro j hj hlt
  apply Nat.le_antisymm hj
  have:l.length / sz<j+1:=by
   rw[Nat.div_lt_iff_lt_mul (by omega),Nat.add_mul,Nat.one_mul];exact hlt
  omega
 have tr : ∀(hx:IH) (r':ILoop) (obj:IObj),hx.ext.get H4.n=some (.loop r')→C hx→C (hx.put H4.n obj) ∧ ∀j',O j' hx→O j' (hx.put H4.n obj):=by
  rintro hx r' obj hg ⟨c1,c2,c3,c4,c5,c6⟩
  have z0 : ∀j,j≠H4.n→(hx.put H4.n obj).ext.get j=hx.ext.get j:=fun j hj=>get_put_old _ _ hj
  refine⟨⟨c1.put (by omega) _,c2.putAny (by rintro c e f hc;rw[hg] at hc;cases hc) _,c3,?_,?_,?_⟩,?_⟩
  ·rw[z0 _ (by omega)];exact c4
  ·rw[z0 _ (by omega)];exact c5
  ·rw[z0 _ (by omega)];exact c6
  ·rintro j' ⟨o1,o2,o3,out,o4,o5⟩
   refine⟨?_,?_,o3,out,?_,o5.putLoop hg _⟩
   ·rw[z0 _ (by omega)];exact o1
   ·rw[z0 _ (by omega)];exact o2
   ·rw[z0 _ (by omega)];exact o4
 have hC0 : ∀hh,C hh→ElSl PRat hh ls (l.map rOf):=fun hh c=>hls.keep kept_p c.2.1
 refine(WV.mono (chunk1_ok (b:=h3.n) (b2:=h3.n+1) (sz:=sz) (l:=l.map rOf) (s:=ls) hs1 (by omega) J D ?_ ?_ ?_ ?_) ?_)
 ·rintro i hh ⟨c,_⟩
  exact⟨c.2.2.2.1,c.2.2.2.2.1,hC0 hh c⟩
 ·refine⟨⟨E4.new _,(X4.new _).keep,by simp,?_,?_,?_⟩,get_new_same _ _ rfl,0,by omega,Nat.zero_le _,?_,?_,?_,.slice none 0 0,?_,?_⟩
  ·rw[get_new_old _ _ (by omega)];exact gc
  ·rw[get_new_old _ _ (by omega)];exact gd
  ·rw[get_new_old _ _ (by omega)];exact X24.kept (by omega) j0
  ·rw[get_new_old _ _ (by omega)];exact X24.kept (by omega) j1
  ·rw[get_new_old _ _ (by omega)];exact X24.kept (by omega) j2
  ·intro q hq;simp at hq
  ·rw[get_new_old _ _ (by omega)];exact X24.kept (by omega) g7
  ·exact Acc.nil _ _ (by omega)
 ·rintro i hh hi ⟨c,hr,j,rfl,hj,o⟩
  rw[hlen] at hi
  have:=hjsz j hj
  have hje:j=l.length / sz:=hend j hj (by omega)
  rw[hje] at o
  exact⟨c,.inl ⟨.inl hr,o⟩⟩
 ·rintro i hh w hi ⟨c,hr,j,rfl,hj,o⟩ hw
  rw[hlen] at hi hw
  refine hy w hh _ hr ?_
  simp -dsimp (disch:=omega) only[wpS,Nat.reduceEqDiff]
  refine⟨rfl,hr,?_⟩
  rw[hfn,hnt,hbd]
  obtain⟨cb,ob⟩:=tr hh r (.loop (busyL r)) hr c
  have ob:=ob j o
  have zl:(hh.put H4.n (.loop (busyL r))).ext.get H4.n=some (.loop (busyL r)):=get_put_same _ _ rfl
  have kb1:Keep hh (hh.put H4.n (.loop (busyL r))):=(Keep.refl _).putAny (by rintro c e f hc;rw[hr] at hc;cases hc) _
  obtain⟨hb,hhb⟩ : ∃hb,hb=hh.put H4.n (.loop (busyL r)):=⟨_,rfl⟩
  rw[←hhb] at cb ob zl kb1 ⊢
  clear hhb
  obtain⟨c1,c2,c3,c4,c5,zz6⟩:=id cb
  obtain⟨o1,o2,o3,out,o4,o5⟩:=id ob
  obtain⟨cs,hws,_,_⟩:=id hw
  have hwl:(((l.map rOf).drop (j*sz)).take (min sz (l.length - j*sz))).length=min sz (l.length - j*sz):=by simp<;>omega
  have hwlen:=fun(h':IH)=>hws.len (P:=Proofs.Tryz.prog) sl103 h'
  rw[hwl] at hwlen
  by_cases hfull:j*sz+sz≤l.length
  ·have hmin:min sz (l.length - j*sz)=sz:=by omega
   rw[hmin] at hwlen hw
   have hjn:j<l.length / sz:=by
    apply Classical.byContradiction;intro hn
    have:j=l.length / sz:=by omega
    have h5:=Nat.lt_div_mul_add (a:=l.length) (show 0<sz by omega)
    rw[←this] at h5;omega
   have hPn:((l.map rOf).drop (j*sz)).take sz ≠ []:=by
    intro h0
    rw[hmin] at hwl
    rw[h0] at hwl;simp at hwl;omega
   have hPB : ∀q∈((l.map rOf).drop (j*sz)).take sz,QB k q:=fun q hq=>hkk q (List.mem_of_mem_drop (List.mem_of_mem_take hq))
   have hPb:(((l.map rOf).drop (j*sz)).take sz).length*(k+1)+17<16000000:=by
    rw[hmin] at hwl
    rw[hwl]
    have:sz*(k+1)≤l.length*(k+1):=Nat.mul_le_mul_right _ hs2
    unfold mBits at hbb
    omega
   have cdec:decide ((sz:Int)<(sz:Int))=false:=decide_eq_false (by omega)
   simp -dsimp (disch:=omega) only[wpS,Nat.reduceEqDiff,ld3,hwlen hb,row_of zz6,cdec]
   refine call (mean_ok (hw.keep kept_p kb1) hPn hPB hPb) ?_
   rintro rm h6 ⟨X6,p6⟩
   have m6:=X6.n
   simp -dsimp (disch:=omega) only[wpS,Nat.reduceEqDiff]
   refine call (rtold_ok p6) ?_
   rintro _ h7 ⟨X7,rfl⟩
   have m7:=X7.n
   have X67:=X6.trans X7
   have hbm:qmean (((l.map rOf).drop (j*sz)).take sz)=bmean (l.map rOf) sz j:=rfl
   have hat:=bmeans_at (l:=l.map rOf) (sz:=sz) (j:=j) (by rw[hlen];exact hjn)
   rw[hbm]
   have kk7:Keep hh h7:=kb1.trans X67.keep
   have c7:C h7:=⟨c1.trans X67,c2.trans X67.keep,by omega,X67.kept (by omega) c4,X67.kept (by omega) c5,X67.kept (by omega) zz6⟩
   have zl7:=X67.kept c3 zl
   have o17:=X67.kept (by omega) o1
   have o27:=X67.kept (by omega) o2
   have o47:=X67.kept (by omega) o4
   by_cases hq:QW (bmean (l.map rOf) sz j)
   ·rw[if_pos hq]
    have eA:Ext h7 ((h7.new (.cells Z16 0 none)).put h7.n (.cells (shC (wideN (bmean (l.map rOf) sz j).num) (wideN ((bmean (l.map rOf) sz j).den:Int))) 0 none)):=((Ext.refl _).new _).put (Nat.le_refl _) _
    have hcnt:(((bmeans (l.map rOf) sz).take j).map shOf).length≤200:=by
     rw[List.length_map,List.length_take]
     have:=Nat.div_le_self l.length sz
     omega
    obtain⟨out',h8,hap,hA8,hG8,hE8⟩:=(o5.ext (X67.trans eA)).appN (P:=Proofs.Tryz.prog) (t:=25) ap25 (m:=1) (new:=shC (wideN (bmean (l.map rOf) sz j).num) (wideN ((bmean (l.map rOf) sz j).den:Int))) (by omega) (by rw[shC_len]) (shC_all _ _) (by omega) (by simp only[put_n,new_n];omega) (c1.trans (X67.trans eA)) (Nat.le_refl _)
    have n8:=hG8.n
    simp only[put_n,new_n] at n8
    have cellsInj : ∀{c:List Value} (c':List Value) (e:Nat) (f:Option Nat),IObj.cells c 0 none=.cells c' e f→e=0:=by rintro c c' e f ⟨⟩;rfl
    have w7:=hG8.var (by simp only[put_n,new_n];omega) ((eA.kept (by omega) o47))
    have w1:=hG8.var (by simp only[put_n,new_n];omega) ((eA.kept (by omega) o17))
    have w2:=hG8.var (by simp only[put_n,new_n];omega) ((eA.kept (by omega) o27))
    have w4:=hG8.var (by simp only[put_n,new_n];omega) ((eA.kept (by omega) c7.2.2.2.1))
    have w5:=hG8.var (by simp only[put_n,new_n];omega) ((eA.kept (by omega) c7.2.2.2.2.1))
    have w6:=hG8.var (by simp only[put_n,new_n];omega) ((eA.kept (by omega) c7.2.2.2.2.2))
    have wl:=hG8.box (by simp only[put_n,new_n];omega) ((eA.kept c7.2.2.1 zl7)) (by rintro c e f ⟨⟩)
    have eT:((bmeans (l.map rOf) sz).take (j+1)).map shOf=((bmeans (l.map rOf) sz).take j).map shOf ++ [shOf (bmean (l.map rOf) sz j)]:=by rw[take_snoc hat,List.map_append];rfl
    have hA8':Acc h8 h.n 16 out' (((bmeans (l.map rOf) sz).take (j+1)).map shOf).length (shL (((bmeans (l.map rOf) sz).take (j+1)).map shOf)):=by
     rw[eT,shL_snoc,List.length_append]
     exact hA8
    have hap':append Proofs.Tryz.prog (((h7.new (.cells Z16 0 none)).put h7.n (.cells (shC (wideN (bmean (l.map rOf) sz j).num) (wideN ((bmean (l.map rOf) sz j).den:Int))) 0 none)).new (.cells (shC (wideN (bmean (l.map rOf) sz j).num) (wideN ((bmean (l.map rOf) sz j).den:Int))) 16 none)) 25 out (.slice (some ⟨2*(h7.n+1),0,none⟩) 1 3)=some (out',h8):=hap
    simp -dsimp (disch:=omega) only[wpS,wpT,Nat.reduceEqDiff,Nat.reduceLeDiff,Nat.reduceAdd,st25,zc30,st30,ld25,ld30,bs25,ba25_25,shV_cells,shC_len,shC_all,sh_sp3,sh_take,row_of o47,hap',w7,hA8.sl.cells,hA8.sl.cok]
    refine⟨by simp (disch:=first|omega|(simp only[new_n,put_n];omega)|(repeat first|rw[new_n]|rw[put_n])) only[get_put_old];exact wl,.inl ⟨rfl,?_⟩⟩
    have k8:Keep h3 h8:=(c7.2.1.trans eA.keep).trans hG8.keep
    have k81:Keep h3 (h8.put h1.n (.cells [out'] 0 none)):=k8.put w7 _
    show J (j*sz+sz) _
    refine⟨⟨(hE8.put (by omega) _).put (by omega) _,k81.putAny (by rintro c e f hc;rw[get_put_old _ _ (by omega),wl] at hc;cases hc) _,by simp only[put_n];omega,by simp (disch:=first|omega|(simp only[new_n,put_n];omega)|(repeat first|rw[new_n]|rw[put_n])) only[get_put_old];exact w4,by simp (disch:=first|omega|(simp only[new_n,put_n];omega)|(repeat first|rw[new_n]|rw[put_n])) only[get_put_old];exact w5,by simp (disch:=first|omega|(simp only[new_n,put_n];omega)|(repeat first|rw[new_n]|rw[put_n])) only[get_put_old];exact w6⟩,get_put_same _ _ rfl,j+1,by rw[Nat.add_mul,Nat.one_mul],by omega,by simp (disch:=first|omega|(simp only[new_n,put_n];omega)|(repeat first|rw[new_n]|rw[put_n])) only[get_put_old];exact w1,by simp (disch:=first|omega|(simp only[new_n,put_n];omega)|(repeat first|rw[new_n]|rw[put_n])) only[get_put_old];exact w2,?_,out',by simp (disch:=first|omega|(simp only[new_n,put_n];omega)|(repeat first|rw[new_n]|rw[put_n])) only[get_put_same,get_put_old],(hA8'.put w7 _).putLoop (by rw[get_put_old _ _ (by omega)];exact wl) _⟩
    rw[take_snoc hat]
    intro q hqm
    rcases List.mem_append.1 hqm with hqm|hqm
    ·exact o3 q hqm
    ·simp at hqm;subst hqm;exact hq
   ·rw[if_neg hq]
    simp -dsimp (disch:=omega) only[wpS,wpT,Nat.reduceEqDiff,Nat.reduceLeDiff,Nat.reduceAdd,st25,st40,zc30,st30,shV_cells,shC_len,shC_all,sh_sp3,o17,o27]
    obtain⟨d1,d2,d3,d4,d5,d6⟩:=c7
    refine⟨by simp (disch:=first|omega|(simp only[new_n,put_n];omega)|(repeat first|rw[new_n]|rw[put_n])) only[get_new_old,get_put_old];exact zl7,.inr ⟨rfl,?_⟩⟩
    have e9:Ext h (((h7.new (.cells Z16 0 none)).put h7.n (.cells (shC 0 0) 0 none))):=(d1.new _).put (by omega) _
    have k9:Keep h3 (((h7.new (.cells Z16 0 none)).put h7.n (.cells (shC 0 0) 0 none))):=d2.trans (((Ext.refl h7).new _).put (Nat.le_refl _) _).keep
    have k91:=k9.put (cs:=[.slice none 0 0]) (f:=none) (k:=h.n+1) (by simp (disch:=first|omega|(simp only[new_n,put_n];omega)|(repeat first|rw[new_n]|rw[put_n])) only[get_new_old,get_put_old];exact o17) (.cells [.slice none 0 0] 0 none)
    have k92:=k91.put (cs:=[KI 0]) (f:=none) (k:=h.n+1+1) (by simp (disch:=first|omega|(simp only[new_n,put_n];omega)|(repeat first|rw[new_n]|rw[put_n])) only[get_new_old,get_put_old];exact o27) (.cells [KI 6] 0 none)
    show D _
    refine⟨⟨((e9.put (by omega) _).put (by omega) _).put (by omega) _,k92.putAny (by rintro c e f hc;rw[get_put_old _ _ (by omega),get_put_old _ _ (by omega),get_put_old _ _ (by omega),get_new_old _ _ (by omega),zl7] at hc;cases hc) _,by simp only[put_n,new_n];omega,by simp (disch:=first|omega|(simp only[new_n,put_n];omega)|(repeat first|rw[new_n]|rw[put_n])) only[get_new_old,get_put_old];exact d4,by simp (disch:=first|omega|(simp only[new_n,put_n];omega)|(repeat first|rw[new_n]|rw[put_n])) only[get_new_old,get_put_old];exact d5,by simp (disch:=first|omega|(simp only[new_n,put_n];omega)|(repeat first|rw[new_n]|rw[put_n])) only[get_new_old,get_put_old];exact d6⟩,.inr ⟨get_put_same _ _ rfl,by simp (disch:=first|omega|(simp only[new_n,put_n];omega)|(repeat first|rw[new_n]|rw[put_n])) only[get_put_same,get_put_old],by simp (disch:=first|omega|(simp only[new_n,put_n];omega)|(repeat first|rw[new_n]|rw[put_n])) only[get_put_same,get_put_old],fun hall=>hq (hall _ (List.mem_of_getElem? hat))⟩⟩
  ·have hmin:min sz (l.length - j*sz)=l.length - j*sz:=by omega
   rw[hmin] at hwlen
   have cdec:decide (((l.length - j*sz:Nat):Int)<(sz:Int))=true:=decide_eq_true (by omega)
   simp -dsimp (disch:=omega) only[wpS,Nat.reduceEqDiff,ld3,hwlen hb,row_of zz6,cdec]
   have hje:j=l.length / sz:=hend j hj (by omega)
   obtain⟨t1,t2⟩:=tr hb (busyL r) (.loop (doneL r (.exit 0))) zl cb
   refine⟨zl,.inr ⟨rfl,t1,.inl ⟨.inr (get_put_same _ _ rfl),?_⟩⟩⟩
   rw[←hje]
   exact t2 j ob
 ·rintro _ hh ⟨c,hd⟩
  have okEnd : ∀r',hh.ext.get H4.n=some (.loop r')→O (l.length / sz) hh → ∀fr:Fr,fget fr 4=some (ptr (2*(h.n+1)) 0)→fget fr 5=some (ptr (2*(h.n+1+1)) 0)→fget fr 7=some (ptr (2*h1.n) 0)→True:=fun _ _ _ _ _ _ _=>trivial
  rcases hd with⟨hr,o⟩|⟨hr,q1,q2,q3⟩
  ·have hbe:batErr l (sz:Int)=0:=by
    obtain⟨_,_,o3,_⟩:=o
    rw[batErr,if_pos he,if_pos ⟨by omega,by omega⟩,Int.toNat_natCast,if_pos]
    intro q hq
    refine o3 q ?_
    rw[List.take_of_length_le (by rw[bmeans_len,hlen];omega)]
    exact hq
   have fin : ∀r',hh.ext.get H4.n=some (.loop r') → ∃out,(hh.put H4.n .dead).ext.get h1.n=some (.cells [out] 0 none)∧(hh.put H4.n .dead).ext.get (h.n+1)=some (.cells [.slice none 0 0] 0 none)∧(hh.put H4.n .dead).ext.get (h.n+1+1)=some (.cells [KI 0] 0 none)∧Ext h (hh.put H4.n .dead)∧ShSl (hh.put H4.n .dead) out ((bmeans (l.map rOf) sz).map shOf)∧H4.n<(hh.put H4.n .dead).n:=by
    intro r' hg
    obtain⟨t1,t2⟩:=tr hh r' .dead hg c
    obtain⟨p1,p2,p3,out,p4,p5⟩:=t2 _ o
    have et:(bmeans (l.map rOf) sz).take (l.length / sz)=bmeans (l.map rOf) sz:=List.take_of_length_le (by rw[bmeans_len,hlen];omega)
    rw[et] at p3 p5
    refine⟨out,p4,p1,p2,t1.1,⟨p5.sl,?_,?_⟩,t1.2.2.1⟩
    ·rw[List.length_map,bmeans_len,hlen]
     have:=Nat.div_le_self l.length sz
     omega
    ·intro p hp
     obtain⟨q,hq,rfl⟩:=List.mem_map.1 hp
     exact shOf_lt (p3 q hq)
   rcases hr with hr|hr
   ·refine .inl ⟨hr,?_⟩
    obtain⟨out,f1,f2,f3,f4,f5,f6⟩:=fin _ hr
    obtain⟨K0,hK0⟩ : ∃K0,K0=hh.put H4.n .dead:=⟨_,rfl⟩
    rw[←hK0] at f1 f2 f3 f4 f5 f6 ⊢
    clear hK0
    simp -dsimp (disch:=omega) only[wpS,wpT,Nat.reduceEqDiff,Nat.reduceLeDiff,st25,st40,ld25,ld40,row_of f1,f2,f3,f5.1.cells,f5.1.cok]
    refine⟨(f4.put (by omega) _).put (by omega) _,out,by rw[hbe],?_⟩
    rw[if_pos hbe]
    exact f5.keep (((Keep.refl K0).put f2 _).put (cs:=[KI 0]) (f:=none) (by simp (disch:=first|omega|(simp only[new_n,put_n];omega)|(repeat first|rw[new_n]|rw[put_n])) only[get_put_old];exact f3) _)
   ·refine .inr (.inl ⟨0,hr,?_⟩)
    obtain⟨out,f1,f2,f3,f4,f5,f6⟩:=fin _ hr
    obtain⟨K0,hK0⟩ : ∃K0,K0=hh.put H4.n .dead:=⟨_,rfl⟩
    rw[←hK0] at f1 f2 f3 f4 f5 f6 ⊢
    clear hK0
    simp -dsimp (disch:=omega) only[wpS,wpT,Nat.reduceEqDiff,Nat.reduceLeDiff,st25,st40,ld25,ld40,row_of f1,f2,f3,f5.1.cells,f5.1.cok]
    refine⟨(f4.put (by omega) _).put (by omega) _,out,by rw[hbe],?_⟩
    rw[if_pos hbe]
    exact f5.keep (((Keep.refl K0).put f2 _).put (cs:=[KI 0]) (f:=none) (by simp (disch:=first|omega|(simp only[new_n,put_n];omega)|(repeat first|rw[new_n]|rw[put_n])) only[get_put_old];exact f3) _)
  ·have hbe:batErr l (sz:Int)=6:=by
    rw[batErr,if_pos he,if_pos ⟨by omega,by omega⟩,Int.toNat_natCast,if_neg q3]
   refine .inr (.inr ⟨hr,?_⟩)
   obtain⟨t1,_⟩:=tr hh _ .dead hr c
   have f1:(hh.put H4.n .dead).ext.get (h.n+1)=some (.cells [.slice none 0 0] 0 none):=by rw[get_put_old _ _ (by omega)];exact q1
   have f2:(hh.put H4.n .dead).ext.get (h.n+1+1)=some (.cells [KI 6] 0 none):=by rw[get_put_old _ _ (by omega)];exact q2
   obtain⟨K0,hK0⟩ : ∃K0,K0=hh.put H4.n .dead:=⟨_,rfl⟩
   rw[←hK0] at f1 f2 t1 ⊢
   clear hK0
   simp -dsimp (disch:=omega) only[wpS,Nat.reduceEqDiff,ld25,ld40,row_of f1,row_of f2]
   exact errEnd 6 (by omega) hbe _ t1.1
end Go.Id

/-! Contracts: the reference's fractions: lowest terms. -/
namespace Go.Id
open Go
def RPair (h:IH) (v:Value) (n d:Int):Prop:=∃a s b t,v=.agg #[a,s,b,t]∧LongIs h (.agg #[a,s]) n∧LongIs h (.agg #[b,t]) d
theorem RPair.keep {h h':IH} {v:Value} {n d:Int} (p:RPair h v n d) (e:Keep h h'):RPair h' v n d:=let ⟨a,s,b,t,h1,h2,h3⟩:=p;⟨a,s,b,t,h1,h2.keep e,h3.keep e⟩
def RRat (h:IH) (v:Value) (q:Rat):Prop:=RPair h v q.num q.den
theorem RRat.keep {h h':IH} {v:Value} {q:Rat} (p:RRat h v q) (e:Keep h h'):RRat h' v q:=RPair.keep p e
theorem LongIs.cells2 {h:IH} {v:Value} {z:Int} (d:LongIs h v z) : ∃s,v=.agg #[.bool (decide (z<0)),s]∧s.cells = #[s]∧cellOK s=true:=let ⟨s,n,a,b,c,_⟩:=d.form;⟨s,a,b,c⟩
theorem LongIs.co {h:IH} {a s:Value} {z:Int} (d:LongIs h (.agg #[a,s]) z):a=.bool (decide (z<0))∧s.cells = #[s]∧cellOK s=true:=by
 obtain⟨s',h1,h2,h3⟩:=d.cells2
 cases h1
 exact⟨rfl,h2,h3⟩
theorem low_turn {n d:Int} (hd:d<0):n / (-(Int.gcd n d:Int))=(Rat.divInt n d).num∧d / (-(Int.gcd n d:Int))=(Rat.divInt n d).den:=by
 obtain⟨a,b⟩:=low_neg (n:=n) hd
 rw[Int.ediv_neg,Int.ediv_neg]
 exact⟨a,b⟩
set_option maxHeartbeats 4000000 in
theorem rlowest_ok {h:IH} {v w:Value} {n d:Int} (hv:LongIs h v n) (hw:LongIs h w d) (sn:SmallI n) (sd:SmallI d) (d0:d≠0) :
  WV Proofs.Tryz.prog (.func (.func 118) #[] #[]) [v,w] h fun r h'=>Ext h h'∧RRat h' r (Rat.divInt n d):=by
 obtain⟨s,rfl,c1,o1⟩:=hv.cells2
 obtain⟨t,rfl,c2,o2⟩:=hw.cells2
 have sg:SmallI (Int.gcd n d:Int):=by
  have h1:Int.gcd n d≤d.natAbs:=Nat.le_of_dvd (by omega) (Nat.gcd_dvd_right _ _)
  exact small_nat (sd.le h1)
 refine enter (nt:=32) (rs:=[.cell 4 91]) Proofs.Tryz.func118 rfl rfl rfl (by simp) ?_
 simp -dsimp (maxSteps:=1000000) (disch:=first|omega|(simp only[new_n,put_n];omega)|decide +kernel|(repeat first|rw[new_n]|rw[put_n])) only[wpS,wpT,Nat.reduceEqDiff,Nat.reduceLeDiff,Nat.reduceAdd,zc91,ld89]
 obtain⟨H0,hH0,n0,E0,g0,g1,g2⟩:=boxes3 h [.bool (decide (n<0)),s] [.bool (decide (d<0)),t] ZR
 rw[←hH0]
 clear hH0
 refine call (divisor_ok (hv.keep E0.keep) (hw.keep E0.keep) sn sd) ?_
 rintro _ h1 ⟨hE1,hg⟩
 obtain⟨sg1,rfl,c3,o3⟩:=hg.cells2
 have hng:decide ((Int.gcd n d:Int)<0)=false:=decide_eq_false (by omega)
 rw[hng] at hg ⊢
 have x1:=E0.trans hE1
 have n1:=(hE1).n;try simp only[new_n,put_n] at n1
 simp -dsimp (maxSteps:=1000000) (disch:=first|omega|(simp only[new_n,put_n];omega)|decide +kernel|(repeat first|rw[new_n]|rw[put_n])) only[wpS,wpT,Nat.reduceEqDiff,Nat.reduceLeDiff,Nat.reduceAdd,zc89,st89,fa89_0,ld4,o3,row_of (hE1.kept (by omega) g1),tk2']
 obtain⟨H2,hH2⟩ : ∃H2,H2=(h1.new (.cells ZL 0 none)).put h1.n (.cells [.bool false,sg1] 0 none):=⟨_,rfl⟩
 have e2:Ext h1 H2:=by rw[hH2];exact((Ext.refl _).new _).put (Nat.le_refl _) _
 have n2:H2.n=h1.n+1:=by rw[hH2];rfl
 have gg:H2.ext.get h1.n=some (.cells [.bool false,sg1] 0 none):=by rw[hH2];simp (disch:=first|omega|(simp only[new_n,put_n];omega)|(repeat first|rw[new_n]|rw[put_n])) only[get_put_same]
 rw[←hH2]
 clear hH2
 have x2:=x1.trans e2
 have kk0:=e2.kept (by omega) (hE1.kept (by omega) g0)
 have kk1:=e2.kept (by omega) (hE1.kept (by omega) g1)
 have kk2:=e2.kept (by omega) (hE1.kept (by omega) g2)
 refine bq_cut (fun fr2 H3 => ∃(g:Int) (ag sg2:Value),Ext h H3∧h1.n+1≤H3.n∧H3.ext.get h.n=some (.cells [.bool (decide (n<0)),s] 0 none)∧H3.ext.get (h.n+1)=some (.cells [.bool (decide (d<0)),t] 0 none)∧H3.ext.get (h.n+1+1)=some (.cells ZR 0 none)∧H3.ext.get h1.n=some (.cells [ag,sg2] 0 none)∧LongIs H3 (.agg #[ag,sg2]) g∧SmallI g∧g≠0∧n / g=(Rat.divInt n d).num∧d / g=(Rat.divInt n d).den ∧
  LongIs H3 (.agg #[.bool (decide (n<0)),s]) n∧LongIs H3 (.agg #[.bool (decide (d<0)),t]) d∧fget fr2 2=some (ptr (2*h.n) 0)∧fget fr2 3=some (ptr (2*(h.n+1)) 0)∧fget fr2 4=some (ptr (2*(h.n+1+1)) 0)∧fget fr2 5=some (ptr (2*h1.n) 0)) (fun hb=>?_) (fun hb=>?_) ?_
 ·have hd:d<0:=by simpa using hb
  obtain⟨b1,b2⟩:=low_turn (n:=n) hd
  simp -dsimp (maxSteps:=1000000) (disch:=first|omega|(simp only[new_n,put_n];omega)|decide +kernel|(repeat first|rw[new_n]|rw[put_n])) only[wpS,wpT,Nat.reduceEqDiff,Nat.reduceLeDiff,Nat.reduceAdd,ld89,row_of gg,tk2']
  refine call (turn_ok (hg.keep e2.keep)) ?_
  rintro _ h3 ⟨hE3,hT⟩
  obtain⟨sT,rfl,c4,o4⟩:=hT.cells2
  have n3:=(hE3).n;try simp only[new_n,put_n] at n3
  have kg:=hE3.kept (by omega) gg
  simp -dsimp (maxSteps:=1000000) (disch:=first|omega|(simp only[new_n,put_n];omega)|decide +kernel|(repeat first|rw[new_n]|rw[put_n])) only[wpS,wpT,Nat.reduceEqDiff,Nat.reduceLeDiff,Nat.reduceAdd,st89,kg,o4]
  have kp:=(Keep.refl h3).put kg (.cells [.bool (decide (-(Int.gcd n d:Int)<0)),sT] 0 none)
  have x3:=x2.trans hE3
  have hng:=gcd_ne (n:=n) (d:=d) (by omega)
  refine⟨-(Int.gcd n d:Int),_,sT,x3.put (by omega) _,by simp only[put_n];omega,by simp (disch:=first|omega|(simp only[new_n,put_n];omega)|(repeat first|rw[new_n]|rw[put_n])) only[get_put_old];exact hE3.kept (by omega) kk0,by simp (disch:=first|omega|(simp only[new_n,put_n];omega)|(repeat first|rw[new_n]|rw[put_n])) only[get_put_old];exact hE3.kept (by omega) kk1,by simp (disch:=first|omega|(simp only[new_n,put_n];omega)|(repeat first|rw[new_n]|rw[put_n])) only[get_put_old];exact hE3.kept (by omega) kk2,get_put_same _ _ rfl,hT.keep kp,by rw[SmallI,Int.natAbs_neg];exact sg,by omega,b1,b2,hv.keep (x3.keep.trans kp),hw.keep (x3.keep.trans kp),by simp,by simp,by simp,by simp⟩
 ·have hd:0<d:=by
   have : ¬d<0:=by simpa using hb
   omega
  obtain⟨b1,b2⟩:=low_pos (n:=n) hd
  simp -dsimp (maxSteps:=1000000) (disch:=first|omega|(simp only[new_n,put_n];omega)|decide +kernel|(repeat first|rw[new_n]|rw[put_n])) only[wpS,wpT]
  exact⟨Int.gcd n d,_,sg1,x2,by omega,kk0,kk1,kk2,gg,hg.keep e2.keep,sg,gcd_ne d0,b1,b2,hv.keep x2.keep,hw.keep x2.keep,by simp,by simp,by simp,by simp⟩
 clear hg kk0 kk1 kk2 gg x2 e2
 rintro fr2 H3 ⟨g,ag,sg2,x3,n3,k0,k1,k2,kg,hg,sgg,g0',b1,b2,hv3,hw3,f2,f3,f4,f5⟩
 rw[d_seq]
 simp -dsimp (maxSteps:=1000000) (disch:=first|omega|(simp only[new_n,put_n];omega)|decide +kernel|(repeat first|rw[new_n]|rw[put_n])) only[wpS,wpT,Nat.reduceEqDiff,Nat.reduceLeDiff,Nat.reduceAdd,ld89,f2,f5,row_of k0,row_of kg,tk2']
 refine call (lparts_ok hv3 hg sn sgg g0') ?_
 rintro _ h4 ⟨hE4,q,u,rfl,hq,hu⟩
 rw[b1] at hq
 obtain⟨sq,rfl,c4,o4⟩:=hq.cells2
 obtain⟨su,rfl,c5,o5⟩:=hu.cells2
 have n4:=(hE4).n;try simp only[new_n,put_n] at n4
 have x4:=x3.trans hE4
 simp -dsimp (maxSteps:=1000000) (disch:=first|omega|(simp only[new_n,put_n];omega)|decide +kernel|(repeat first|rw[new_n]|rw[put_n])) only[wpS,wpT,Nat.reduceEqDiff,Nat.reduceLeDiff,Nat.reduceAdd,ld89,zc89,st89,o4,o5,f3,f5,row_of (hE4.kept (by omega) k1),row_of (hE4.kept (by omega) kg),tk2']
 obtain⟨H5,hH5⟩ : ∃H4,H4=((((h4.new (.cells ZL 0 none)).new (.cells ZL 0 none)).put h4.n (.cells [.bool (decide ((Rat.divInt n d).num<0)),sq] 0 none)).put (h4.n+1) (.cells [.bool (decide (n % g<0)),su] 0 none)):=⟨_,rfl⟩
 have e5:Ext h4 H5:=by rw[hH5];exact((((Ext.refl _).new _).new _).put (Nat.le_refl _) _).put (by omega) _
 have n5:H5.n=h4.n+2:=by rw[hH5];rfl
 have gq:H5.ext.get h4.n=some (.cells [.bool (decide ((Rat.divInt n d).num<0)),sq] 0 none):=by rw[hH5];simp (disch:=first|omega|(simp only[new_n,put_n];omega)|(repeat first|rw[new_n]|rw[put_n])) only[get_put_same,get_put_old]
 rw[←hH5]
 clear hH5
 refine call (lparts_ok (hw3.keep (hE4.trans e5).keep) (hg.keep (hE4.trans e5).keep) sd sgg g0') ?_
 rintro _ h6 ⟨hE6,q2,u2,rfl,hq2,hu2⟩
 rw[b2] at hq2
 obtain⟨sq2,rfl,c6,o6⟩:=hq2.cells2
 obtain⟨su2,rfl,c7,o7⟩:=hu2.cells2
 have n6:=(hE6).n;try simp only[new_n,put_n] at n6
 have hdf:decide (((Rat.divInt n d).den:Int)<0)=false:=decide_eq_false (by omega)
 rw[hdf] at hq2 ⊢
 have x6:=(x4.trans e5).trans hE6
 have kq:=hE6.kept (by omega) gq
 have kr:=hE6.kept (by omega) (e5.kept (by omega) (hE4.kept (by omega) k2))
 simp -dsimp (maxSteps:=1000000) (disch:=first|omega|(simp only[new_n,put_n];omega)|decide +kernel|(repeat first|rw[new_n]|rw[put_n])) only[wpS,wpT,Nat.reduceEqDiff,Nat.reduceLeDiff,Nat.reduceAdd,ld89,zc89,st89,bv91,pl91_0,pl91_1,st91,ld91,o6,o7,f4,row_of kq,kr,o4,tk2',tk4']
 refine⟨?_,_,_,_,_,rfl,hq.keep ((e5.trans hE6).keep.trans ?_),hq2.keep ?_⟩
 ·exact((((x6.new _).new _).put (by omega) _).put (by omega) _).put (by omega) _
 ·exact(((((Keep.refl h6).new _).new _).put (cs:=ZL) (f:=none) (by simp (disch:=first|omega|(simp only[new_n,put_n];omega)|(repeat first|rw[new_n]|rw[put_n])) only[get_new_same,get_new_old]) _).put (cs:=ZL) (f:=none) (by simp (disch:=first|omega|(simp only[new_n,put_n];omega)|(repeat first|rw[new_n]|rw[put_n])) only[get_new_same,get_put_old]) _).put (cs:=ZR) (f:=none) (by simp (disch:=first|omega|(simp only[new_n,put_n];omega)|(repeat first|rw[new_n]|rw[put_n])) only[get_new_old,get_put_old];exact kr) _
 ·exact(((((Keep.refl h6).new _).new _).put (cs:=ZL) (f:=none) (by simp (disch:=first|omega|(simp only[new_n,put_n];omega)|(repeat first|rw[new_n]|rw[put_n])) only[get_new_same,get_new_old]) _).put (cs:=ZL) (f:=none) (by simp (disch:=first|omega|(simp only[new_n,put_n];omega)|(repeat first|rw[new_n]|rw[put_n])) only[get_new_same,get_put_old]) _).put (cs:=ZR) (f:=none) (by simp (disch:=first|omega|(simp only[new_n,put_n];omega)|(repeat first|rw[new_n]|rw[put_n])) only[get_new_old,get_put_old];exact kr) _
end Go.Id

/-! Contracts: the reference's fractions: sums, differences, products, quotients, order. -/
namespace Go.Id
open Go
theorem RRat.parts {h:IH} {v:Value} {q:Rat} (p:RRat h v q) : ∃a s b t,v=.agg #[a,s,b,t]∧LongIs h (.agg #[a,s]) q.num∧LongIs h (.agg #[b,t]) q.den∧s.cells = #[s]∧cellOK s=true∧t.cells = #[t]∧cellOK t=true∧cellOK a=true∧cellOK b=true:=by
 obtain⟨a,s,b,t,rfl,h1,h2⟩:=p
 obtain⟨rfl,c1,o1⟩:=h1.co
 obtain⟨rfl,c2,o2⟩:=h2.co
 exact⟨_,s,_,t,rfl,h1,h2,c1,o1,c2,o2,rfl,rfl⟩
end Go.Id

/-! Contracts: the reference's shares: in, out, made, valid; fractions of integers. -/
namespace Go.Id
open Go
set_option maxHeartbeats 2000000 in
theorem refout_ok {h:IH} {v:Value} {q:Rat} (hv:RRat h v q):WV Proofs.Tryz.prog (.func (.func 55) #[] #[]) [v] h fun r h'=>Ext h h'∧r=(open Classical in if QW q then .tuple #[shareV q,KI 0] else .tuple #[shV 0 0,KI 6]):=by
 obtain⟨a1,s1,b1,t1,rfl,hn1,hd1,c1,o1,c2,o2,o3,o4⟩:=hv.parts
 refine enter (nt:=30) (rs:=[.cell 2 30,.tmp 3]) Proofs.Tryz.func55 rfl rfl rfl (by simp) ?_
 simp -dsimp (maxSteps:=1000000) (disch:=first|omega|(simp only[new_n,put_n];omega)|decide +kernel|(repeat first|rw[new_n]|rw[put_n])) only[wpS,wpT,Nat.reduceEqDiff,Nat.reduceLeDiff,Nat.reduceAdd,zc30,fa91_0,ld89]
 obtain⟨H0,hH0,n0,E0,g0,g1⟩:=boxes2 h [a1,s1,b1,t1] Z16
 rw[←hH0]
 clear hH0
 simp -dsimp (maxSteps:=1000000) (disch:=first|omega|(simp only[new_n,put_n];omega)|decide +kernel|(repeat first|rw[new_n]|rw[put_n])) only[tkA]
 refine call (out_ok (hn1.keep E0.keep)) ?_
 rintro _ h1 ⟨X1,rfl⟩
 have m1:=X1.n
 obtain⟨w1,e1,hw⟩ : ∃w1 e1,(if InW q.num then Value.tuple #[wideV q.num,KI 0] else .tuple #[wdV 0,KI 6])=.tuple #[wdV w1,KI e1]∧(InW q.num∧w1=wideN q.num∧e1=0 ∨ ¬InW q.num∧e1=6):=by
  by_cases hi:InW q.num
  ·exact⟨_,0,by rw[if_pos hi],.inl ⟨hi,rfl,rfl⟩⟩
  ·exact⟨0,6,by rw[if_neg hi],.inr ⟨hi,rfl⟩⟩
 rw[hw.1]
 have k0:=X1.kept (by omega) g0
 have k1:=X1.kept (by omega) g1
 simp -dsimp (maxSteps:=1000000) (disch:=first|omega|(simp only[new_n,put_n];omega)|decide +kernel|(repeat first|rw[new_n]|rw[put_n])) only[wpS,wpT,Nat.reduceEqDiff,Nat.reduceLeDiff,Nat.reduceAdd,ld89,zc28,st28,fa91_1,cells8,wdC_len,wdC_all,wd_spl,row_of k0,tkA,tkB]
 obtain⟨H2,hH2⟩ : ∃H2,H2=(h1.new (.cells [ZW,ZW,ZW,ZW,ZW,ZW,ZW,ZW] 0 none)).put h1.n (.cells (wdC w1) 0 none):=⟨_,rfl⟩
 have e2:Ext h1 H2:=by rw[hH2];exact((Ext.refl _).new _).put (Nat.le_refl _) _
 have n2:H2.n=h1.n+1:=by rw[hH2];rfl
 have ga:H2.ext.get h1.n=some (.cells (wdC w1) 0 none):=by rw[hH2];simp (disch:=first|omega|(simp only[new_n,put_n];omega)|(repeat first|rw[new_n]|rw[put_n])) only[get_put_same]
 have k1':=e2.kept (by omega) k1
 rw[←hH2]
 clear hH2
 refine call (out_ok (hd1.keep ((E0.trans X1).trans e2).keep)) ?_
 rintro _ h3 ⟨X3,rfl⟩
 have m3:=X3.n
 obtain⟨w2,f2,hw2⟩ : ∃w1 e1,(if InW (q.den:Int) then Value.tuple #[wideV q.den,KI 0] else .tuple #[wdV 0,KI 6])=.tuple #[wdV w1,KI e1]∧(InW (q.den:Int)∧w1=wideN q.den∧e1=0 ∨ ¬InW (q.den:Int)∧e1=6):=by
  by_cases hi:InW (q.den:Int)
  ·exact⟨_,0,by rw[if_pos hi],.inl ⟨hi,rfl,rfl⟩⟩
  ·exact⟨0,6,by rw[if_neg hi],.inr ⟨hi,rfl⟩⟩
 rw[hw2.1]
 have ga3:=X3.kept (by omega) ga
 have k3:=X3.kept (by omega) k1'
 have xx:=((E0.trans X1).trans e2).trans X3
 rcases hw.2 with⟨i1,rfl,rfl⟩|⟨i1,rfl⟩
 ·rcases hw2.2 with⟨i2,rfl,rfl⟩|⟨i2,rfl⟩
  ·rw[if_pos (show QW q from⟨i1,i2⟩)]
   simp -dsimp (maxSteps:=1000000) (disch:=first|omega|(simp only[new_n,put_n];omega)|decide +kernel|(repeat first|rw[new_n]|rw[put_n])) only[wpS,wpT,Nat.reduceEqDiff,Nat.reduceLeDiff,Nat.reduceAdd,zc28,st28,bv30,st30,ld28,pl30_0,pl30_1,ld30,cells8,wdC_len,wdC_all,wd_spl,row_of ga3,k3,wd_take,sh_sp1,sh_sp2,sh_sp3,shC_len,shC_all,sh_take]
   exact⟨(((xx.new _).put (by omega) _).put (by omega) _),rfl⟩
  ·rw[if_neg (show ¬QW q from fun h=>i2 h.2)]
   simp -dsimp (maxSteps:=1000000) (disch:=first|omega|(simp only[new_n,put_n];omega)|decide +kernel|(repeat first|rw[new_n]|rw[put_n])) only[wpS,wpT,Nat.reduceEqDiff,Nat.reduceLeDiff,Nat.reduceAdd,zc28,st28,bv30,st30,ld30,cells8,wdC_len,wdC_all,wd_spl,k3,sh_tz]
   exact⟨(((xx.new _).put (by omega) _).put (by omega) _),by rw[sh_zeroV]⟩
 ·rw[if_neg (show ¬QW q from fun h=>i1 h.1)]
  simp -dsimp (maxSteps:=1000000) (disch:=first|omega|(simp only[new_n,put_n];omega)|decide +kernel|(repeat first|rw[new_n]|rw[put_n])) only[wpS,wpT,Nat.reduceEqDiff,Nat.reduceLeDiff,Nat.reduceAdd,zc28,st28,bv30,st30,ld30,cells8,wdC_len,wdC_all,wd_spl,k3,sh_tz]
  exact⟨(((xx.new _).put (by omega) _).put (by omega) _),by rw[sh_zeroV]⟩
set_option maxHeartbeats 2000000 in
theorem refmake_ok {h:IH} (n d:Nat) (hn:n<W8) (hd:d<W8) (d0:d≠0):WV Proofs.Tryz.prog (.func (.func 98) #[] #[]) [wdV n,wdV d] h fun r h'=>Ext h h'∧r=(open Classical in if QW (Rat.divInt (wdI n) (wdI d)) then .tuple #[shareV (Rat.divInt (wdI n) (wdI d)),KI 0] else .tuple #[shV 0 0,KI 6]):=by
 refine enter (nt:=18) (rs:=[.cell 4 30,.tmp 5]) Proofs.Tryz.func98 rfl rfl rfl (by simp) ?_
 simp -dsimp (maxSteps:=1000000) (disch:=first|omega|(simp only[new_n,put_n];omega)|decide +kernel|(repeat first|rw[new_n]|rw[put_n])) only[wpS,wpT,Nat.reduceEqDiff,Nat.reduceLeDiff,Nat.reduceAdd,zc30,ld28,bv28,cells8,wdC_len]
 obtain⟨H0,hH0,n0,E0,g0,g1,g2⟩:=boxes3 h (wdC n) (wdC d) Z16
 rw[←hH0]
 clear hH0
 have X0:=Ext.refl H0
 have L2:load Proofs.Tryz.prog H0 28 (ptr (2*(h.n+1)) 0)=some (wdV d):=by
  simp -dsimp (maxSteps:=1000000) (disch:=first|omega|(simp only[new_n,put_n];omega)|decide +kernel|(repeat first|rw[new_n]|rw[put_n])) only[wpS,Nat.reduceLeDiff,ld28,row_of g1,wdC_len,wd_take]
  rfl
 have hz:binop Proofs.Tryz.prog .eql 28 (.tmp 6) (.tmp 7) (.agg (wdC d).toArray) (.agg #[ZW,ZW,ZW,ZW,ZW,ZW,ZW,ZW])=some (.bool false):=by
  rw[wd_zero,wdV,wd_eql hd (by have:=H8_two;have:=H8_pos;omega)]
  rw[decide_eq_false d0]
 have hdI:wdI d≠0:=fun h=>d0 ((wdI_zero_iff hd).1 h)
 simp -dsimp (maxSteps:=1000000) (disch:=first|omega|(simp only[new_n,put_n];omega)|decide +kernel|(repeat first|rw[new_n]|rw[put_n])) only[wpS,Nat.reduceEqDiff,wd_take,hz]
 refine drawn [(2,[1])] (by kernel_rfl) (by kernel_rfl) rfl ?_
 simp -dsimp (maxSteps:=1000000) (disch:=first|omega|(simp only[new_n,put_n];omega)|decide +kernel|(repeat first|rw[new_n]|rw[put_n])) only[wpS,Nat.reduceEqDiff,Nat.reduceLeDiff,ld28,row_of g0,wdC_len,wd_take]
 refine call (in_ok n hn) ?_
 rintro r1 h1 ⟨X1,p1⟩
 have m1:=X1.n
 simp -dsimp (maxSteps:=1000000) (disch:=first|omega|(simp only[new_n,put_n];omega)|decide +kernel|(repeat first|rw[new_n]|rw[put_n])) only[wpS,Nat.reduceEqDiff,Nat.reduceLeDiff,ld28,row_of (X1.kept (by omega) g1),wdC_len,wd_take]
 refine call (in_ok d hd) ?_
 rintro r2 h2 ⟨hE2,p2⟩
 have X2:=X1.trans hE2
 have m2:=hE2.n
 simp -dsimp (maxSteps:=1000000) (disch:=first|omega|(simp only[new_n,put_n];omega)|decide +kernel|(repeat first|rw[new_n]|rw[put_n])) only[wpS,Nat.reduceEqDiff]
 refine call (rlowest_ok (p1.keep hE2.keep) p2 (wdI_small hn) (wdI_small hd) hdI) ?_
 rintro r3 h3 ⟨hE3,p3⟩
 have X3:=X2.trans hE3
 have m3:=hE3.n
 simp -dsimp (maxSteps:=1000000) (disch:=first|omega|(simp only[new_n,put_n];omega)|decide +kernel|(repeat first|rw[new_n]|rw[put_n])) only[wpS,Nat.reduceEqDiff]
 refine call (refout_ok p3) ?_
 rintro _ h4 ⟨hE4,rfl⟩
 have X4:=X3.trans hE4
 have m4:=hE4.n
 have kg:=X4.kept (by omega) g2
 by_cases hq:QW (Rat.divInt (wdI n) (wdI d))
 ·rw[if_pos hq]
  simp -dsimp (maxSteps:=1000000) (disch:=first|omega|(simp only[new_n,put_n];omega)|decide +kernel|(repeat first|rw[new_n]|rw[put_n])) only[wpS,wpT,Nat.reduceEqDiff,Nat.reduceLeDiff,Nat.reduceAdd,st30,kg,shV_cells,shC_len,shC_all,sh_sp3]
  refine⟨by repeat' first|refine wpSteady_c2 ?_ ?_|refine wpSteady_t2 ?_ ?_|exact wpSteady_one rfl rfl rfl rfl (steady_ext (H0:=H0) rfl (by omega) (by assumption) (by assumption) (by with_reducible assumption)),?_⟩
  simp -dsimp (maxSteps:=1000000) (disch:=first|omega|(simp only[new_n,put_n];omega)|decide +kernel|(repeat first|rw[new_n]|rw[put_n])) only[wpS,wpT,Nat.reduceEqDiff,Nat.reduceLeDiff,Nat.reduceAdd,ld30,shC_len,sh_take]
  exact⟨(E0.trans X4).put (by omega) _,rfl⟩
 ·rw[if_neg hq]
  simp -dsimp (maxSteps:=1000000) (disch:=first|omega|(simp only[new_n,put_n];omega)|decide +kernel|(repeat first|rw[new_n]|rw[put_n])) only[wpS,wpT,Nat.reduceEqDiff,Nat.reduceLeDiff,Nat.reduceAdd,st30,kg,shV_cells,shC_len,shC_all,sh_sp3]
  refine⟨by repeat' first|refine wpSteady_c2 ?_ ?_|refine wpSteady_t2 ?_ ?_|exact wpSteady_one rfl rfl rfl rfl (steady_ext (H0:=H0) rfl (by omega) (by assumption) (by assumption) (by with_reducible assumption)),?_⟩
  simp -dsimp (maxSteps:=1000000) (disch:=first|omega|(simp only[new_n,put_n];omega)|decide +kernel|(repeat first|rw[new_n]|rw[put_n])) only[wpS,wpT,Nat.reduceEqDiff,Nat.reduceLeDiff,Nat.reduceAdd,ld30,shC_len,sh_take]
  exact⟨(E0.trans X4).put (by omega) _,rfl⟩
end Go.Id

/-! Contracts: the laws' own helpers: shares of integers, lists of them. -/
namespace Go.Id
open Go
theorem lawq_ok {h:IH} (n d:Int) (hn:In64 n) (hd:In64 d) (d0:d≠0):WV Proofs.Tryz.prog (.func (.func 25) #[] #[]) [KI n,KI d] h fun r h'=>Ext h h'∧r=shareV (Rat.divInt n d):=by
 refine enter (nt:=14) (rs:=[.cell 4 30]) Proofs.Tryz.func25 rfl rfl rfl (by simp) ?_
 simp -dsimp (disch:=omega) only[wpS,Nat.reduceEqDiff,Nat.reduceAdd,zc30]
 have E1:Ext h (h.new (.cells Z16 0 none)):=(Ext.refl h).new _
 have g1:(h.new (.cells Z16 0 none)).ext.get h.n=some (.cells Z16 0 none):=by simp (disch:=first|omega|(simp only[new_n,put_n];omega)|(repeat first|rw[new_n]|rw[put_n])) only[get_new_same]
 refine call (shof_ok n d hn hd d0) ?_
 rintro _ h1 ⟨X1,rfl⟩
 have m1:=X1.n
 simp only[new_n] at m1
 have k1:=X1.kept (by simp) g1
 simp -dsimp (disch:=omega) only[wpS,wpT,Nat.reduceEqDiff,Nat.reduceLeDiff,Nat.reduceAdd,zc30,st30,ld30,k1,shV_cells,shC_len,shC_all,sh_sp3,sh_take]
 exact⟨(((E1.trans X1).new _).put (by omega) _).put (by omega) _,rfl⟩
theorem madeS_ok {h:IH} (n d:Nat) (hn:n<W8) (hd:d<W8) (d0:d≠0) (hq:QW (Rat.divInt (wdI n) (wdI d))):WV Proofs.Tryz.prog (.func (.func 47) #[] #[]) [wdV n,wdV d] h fun r h'=>Ext h h'∧r=shareV (Rat.divInt (wdI n) (wdI d)):=by
 refine enter (nt:=22) (rs:=[.cell 4 30]) Proofs.Tryz.func47 rfl rfl rfl (by simp) ?_
 simp -dsimp (maxSteps:=1000000) (disch:=first|omega|(simp only[new_n,put_n];omega)|decide +kernel|(repeat first|rw[new_n]|rw[put_n])) only[wpS,Nat.reduceEqDiff,Nat.reduceLeDiff,Nat.reduceAdd,zc30,ld28,cells8,wdC_len,wd_take]
 obtain⟨H0,hH0,n0,E0,g0,g1,g2⟩:=boxes3 h (wdC n) (wdC d) Z16
 rw[←hH0]
 clear hH0
 refine call (refmake_ok n d hn hd d0) ?_
 rintro _ h1 ⟨X1,rfl⟩
 rw[if_pos hq]
 have m1:=X1.n
 have k2:=X1.kept (by omega) g2
 simp -dsimp (maxSteps:=1000000) (disch:=first|omega|(simp only[new_n,put_n];omega)|decide +kernel|(repeat first|rw[new_n]|rw[put_n])) only[wpS,wpT,Nat.reduceEqDiff,Nat.reduceLeDiff,Nat.reduceAdd,zc30,st30,ld30,k2,shV_cells,shC_len,shC_all,sh_sp3,sh_take]
 exact⟨(((E0.trans X1).new _).put (by omega) _).put (by omega) _,rfl⟩
def shI (n:Int):Nat×Nat:=(wideN n,wideN 1)
theorem shI_lt {n:Int} (hn:In64 n):(shI n).1<W8∧(shI n).2<W8:=⟨wideN_lt (inW64 hn),wideN_lt (z:=1) (inW64 ⟨by omega,by omega⟩)⟩
set_option maxHeartbeats 2000000 in
theorem lawl_ok {h:IH} {v:Value} {xs:List Int} (hv:SlOf h 1 v xs.length (xs.map KI)) (hx : ∀x∈xs,In64 x) (hl:xs.length≤1000):WV Proofs.Tryz.prog (.func (.func 45) #[] #[]) [v] h fun r h'=>Ext h h'∧ShSl h' r (xs.map shI):=by
 refine enter (nt:=19) (rs:=[.tmp 2]) Proofs.Tryz.func45 rfl rfl rfl (by simp) ?_
 simp -dsimp (disch:=omega) only[wpS,Nat.reduceEqDiff,hv.len sl87]
 refine loop (fun m fr hh => ∃(i:Nat) (out:Value),i+m=xs.length∧Ext h hh∧Acc hh h.n 16 out ((xs.take i).map shI).length (shL ((xs.take i).map shI))∧fget fr 3=some out∧fget fr 6=some v∧fget fr 7=some (KN xs.length)∧fget fr 8=some (KN i)) xs.length
  ⟨0,.slice none 0 0,by omega,Ext.refl _,Acc.nil _ _ (by omega),by simp,by simp,by simp,by simp⟩ ?_
 rintro m fr hh ⟨i,out,him,hE,hA,f3,f6,f7,f8⟩
 have hnn:=hE.n
 simp -dsimp (disch:=omega) only[wpS,f7,f8]
 refine bq_intro ?_ ?_<;>intro hc<;>simp only[decide_eq_true_eq,decide_eq_false_iff_not] at hc
 ·have hi:i<xs.length:=by omega
  obtain⟨x,hxi⟩ : ∃x,xs[i]?=some x:=⟨_,List.getElem?_eq_getElem hi⟩
  have hxm:=List.mem_of_getElem? hxi
  have hld:load Proofs.Tryz.prog hh 3 (elemAddr v i)=some (KI x):=by
   rw[hv.ld hE.keep (P:=Proofs.Tryz.prog) (t:=3) (c:=i) (by simpa using hi) ag3,List.getElem?_map,hxi];rfl
  simp -dsimp (disch:=omega) only[wpS,wpT,Nat.reduceEqDiff,f3,f6,f8,hv.idx es87 hi,hld]
  refine call (lawq_ok x 1 (hx x hxm) ⟨by omega,by omega⟩ (by omega)) ?_
  rintro _ h1 ⟨X1,rfl⟩
  have m1:=X1.n
  have eS:shareV (Rat.divInt x 1)=shV (wideN x) (wideN 1):=by
   have:Rat.divInt x 1=(x:Rat):=Rat.num_divInt_den (x:Rat)
   rw[this];rfl
  rw[eS]
  obtain⟨out',h8,hap,hA8,hG8,hE8⟩:=(hA.ext X1).appN (P:=Proofs.Tryz.prog) (t:=25) ap25 (m:=1) (new:=shC (wideN x) (wideN 1)) (by omega) (by rw[shC_len]) (shC_all _ _) (by rw[List.length_map,List.length_take];omega) (by omega) (hE.trans X1) (Nat.le_refl _)
  have eT:(xs.take (i+1)).map shI=(xs.take i).map shI ++ [shI x]:=by rw[take_snoc hxi,List.map_append];rfl
  have hA8':Acc h8 h.n 16 out' ((xs.take (i+1)).map shI).length (shL ((xs.take (i+1)).map shI)):=by
   rw[eT,shL_snoc,List.length_append]
   exact hA8
  have hap':append Proofs.Tryz.prog (h1.new (.cells (shC (wideN x) (wideN 1)) 16 none)) 25 out (.slice (some ⟨2*h1.n,0,none⟩) 1 3)=some (out',h8):=hap
  simp -dsimp (disch:=omega) only[wpS,wpT,Nat.reduceEqDiff,Nat.reduceLeDiff,Nat.reduceAdd,bs25,ba25_25,f8,shV_cells,shC_len,sh_sp3,hap']
  exact⟨m - 1,by omega,i+1,out',by omega,hE8,hA8',by simp,by simp[f6],by simp[f7],by simp⟩
 ·obtain rfl:i=xs.length:=by omega
  rw[List.take_length] at hA
  simp -dsimp (disch:=omega) only[wpS,wpT,Nat.reduceEqDiff,f3]
  refine⟨hE,hA.sl,by rw[List.length_map];omega,?_⟩
  intro p hp
  obtain⟨x,hxm,rfl⟩:=List.mem_map.1 hp
  exact shI_lt (hx x hxm)
end Go.Id

/-! Shares compared. -/
namespace Go.Id
open Go
section
variable {P:Program}
theorem pr_program:pureRun P (program)=some P:=rfl
theorem pr_part_agg {e:TypeId} {n:Nat} (hA:isAggT P e=some true) (hs:sizeT P e=some n) (cs:Array Value) (off:Nat):pureRun P (part e cs off)=some (.agg (cs.extract off (off+n))):=by
 unfold part
 have h1:pureRun P (isAgg e)=some true:=by
  unfold isAgg
  simp only[isAggT,Option.map_eq_some_iff] at hA
  obtain⟨d,hd,hA⟩:=hA
  rw[pr_bind (pr_underlying hd)]
  cases d<;>first|rfl|(simp at hA)
 rw[pr_bind h1]
 simp only[if_true]
 rw[pr_bind (pr_sizeOf hs)]
 rfl
theorem binop_eql_gen {t:TypeId} {x y:Array Value} {b:Bool} (hg:P.eqGuardType P.depth t=false) (hx:plain (.agg x)=true) (hy:plain (.agg y)=true) (h:pureRun P (Op.equal t (.agg x) (.agg y))=some b) (ox oy:Operand):binop P .eql t ox oy (.agg x) (.agg y)=some (.bool b):=by
 refine binop_of P t ox oy hx hy rfl ?_
 have h1:pureRun P (eqGuard .eql t ox oy (.agg x) (.agg y))=some ():=by
  show pureRun P (if (!P.eqGuardType P.depth t)=true then _ else _)=_
  rw[hg];rfl
 rw[pr_bind h1]
 show pureRun P (Op.equal t _ _ >>= fun r=>pure (Value.bool r))=_
 rw[pr_bind h];rfl
theorem binop_neq_gen {t:TypeId} {x y:Array Value} {b:Bool} (hg:P.eqGuardType P.depth t=false) (hx:plain (.agg x)=true) (hy:plain (.agg y)=true) (h:pureRun P (Op.equal t (.agg x) (.agg y))=some b) (ox oy:Operand):binop P .neq t ox oy (.agg x) (.agg y)=some (.bool (!b)):=by
 refine binop_of P t ox oy hx hy rfl ?_
 have h1:pureRun P (eqGuard .neq t ox oy (.agg x) (.agg y))=some ():=by
  show pureRun P (if (!P.eqGuardType P.depth t)=true then _ else _)=_
  rw[hg];rfl
 rw[pr_bind h1]
 show pureRun P (Op.equal t _ _ >>= fun r=>pure (Value.bool !r))=_
 rw[pr_bind h];rfl
end
theorem sh_ext1 (n d:Nat):((shC n d).toArray).extract 0 8=(wdC n).toArray:=by
 simp only[List.extract_toArray,List.extract_eq_take_drop]
 rw[show(8 - 0)=8 from rfl,sh_take1]
theorem sh_ext2 (n d:Nat):((shC n d).toArray).extract 8 16=(wdC d).toArray:=by
 simp only[List.extract_toArray,List.extract_eq_take_drop]
 rw[show(16 - 8)=8 from rfl,sh_take2]
theorem wd_equalIn {n m:Nat} (hn:n<W8) (hm:m<W8) (k:Nat):pureRun Proofs.Tryz.prog (Op.equalIn (k+2) 28 (.agg (wdC n).toArray) (.agg (wdC m).toArray))=some (decide (n=m)):=by
 rw[wdC_map,wdC_map,pr_equal_arr u28 u26 sz26 _ _ _ (by simp) (by simp),wd_dec hn hm]
theorem sh_equalIn {n d n' d':Nat} (h1:n<W8) (h2:d<W8) (h3:n'<W8) (h4:d'<W8) (k:Nat):pureRun Proofs.Tryz.prog (Op.equalIn (k+3) 30 (.agg (shC n d).toArray) (.agg (shC n' d').toArray))=some (decide (n=n'∧d=d')):=by
 unfold Op.equalIn
 rw[pr_bind (pr_underlying (show Program.underlying Proofs.Tryz.prog 30=some (.struct { toList:=[{ name := "N",type:=28,offset:=0,embedded:=false,tag := "",pkgPath := "",byteOffset:=0 },{ name := "D",type:=28,offset:=8,embedded:=false,tag := "",pkgPath := "",byteOffset:=64 }] }) by kernel_rfl))]
 simp only
 rw[pr_bind pr_program,show Program.stoodInHeld Proofs.Tryz.prog 30=false by kernel_rfl]
 have seq : ∀{α β:Type} (s:Sem α) (f:α→Sem β),pureRun Proofs.Tryz.prog (s >>= f)=(pureRun Proofs.Tryz.prog s).bind fun a=>pureRun Proofs.Tryz.prog (f a):=fun s f=>pureRun_seq _ f s
 have p1:=fun(n d:Nat)=>pr_part_agg (P:=Proofs.Tryz.prog) ag28 sz28 (shC n d).toArray 0
 have p2:=fun(n d:Nat)=>pr_part_agg (P:=Proofs.Tryz.prog) ag28 sz28 (shC n d).toArray 8
 have n1:("N" ≠ "_")=True:=by simp
 have n2:("D" ≠ "_")=True:=by simp
 simp only[Bool.false_eq_true,if_false,←Array.forIn_toList,List.forIn_cons,List.forIn_nil,seq,n1,n2,if_true,p1,Option.bind_some,Nat.zero_add,sh_ext1,wd_equalIn h1 h3]
 by_cases e1:n=n'
 ·simp only[decide_eq_true e1,Bool.not_true,Bool.false_eq_true,if_false,pr_pure,Option.bind_some,seq,p2,show(8+8:Nat)=16 from rfl,sh_ext2,wd_equalIn h2 h4]
  by_cases e2:d=d'
  ·simp only[decide_eq_true e2,Bool.not_true,Bool.false_eq_true,if_false,pr_pure,Option.bind_some]
   rw[decide_eq_true (And.intro e1 e2)]
  ·simp only[decide_eq_false e2,Bool.not_false,if_true,pr_pure,Option.bind_some]
   rw[decide_eq_false (fun h=>e2 h.2)]
 ·simp only[decide_eq_false e1,Bool.not_false,if_true,pr_pure,Option.bind_some]
  rw[decide_eq_false (fun h=>e1 h.1)]
theorem sh_plain (n d:Nat):plain (.agg (shC n d).toArray)=true:=by
 simp only[plain,shC,wdC]
 simp[scal]
theorem sh_eql {n d n' d':Nat} (h1:n<W8) (h2:d<W8) (h3:n'<W8) (h4:d'<W8) (ox oy:Operand):binop Proofs.Tryz.prog .eql 30 ox oy (.agg (shC n d).toArray) (.agg (shC n' d').toArray)=some (.bool (decide (n=n'∧d=d'))):=by
 exact binop_eql_gen (by kernel_rfl) (sh_plain _ _) (sh_plain _ _) (sh_equalIn h1 h2 h3 h4 9997) ox oy
theorem sh_neq {n d n' d':Nat} (h1:n<W8) (h2:d<W8) (h3:n'<W8) (h4:d'<W8) (ox oy:Operand):binop Proofs.Tryz.prog .neq 30 ox oy (.agg (shC n d).toArray) (.agg (shC n' d').toArray)=some (.bool (!decide (n=n'∧d=d'))):=by
 exact binop_neq_gen (by kernel_rfl) (sh_plain _ _) (sh_plain _ _) (sh_equalIn h1 h2 h3 h4 9997) ox oy
end Go.Id

/-! Contracts: the laws' own helpers: is, fails, is2. -/
namespace Go.Id
open Go
theorem fails_ok {h:IH} (e:Int):WV Proofs.Tryz.prog (.func (.func 35) #[] #[]) [KI e] h fun r h'=>r=.func (.func 87) #[] #[ptr (2*h.n) 0]∧h'=h.new (.cells [KI e] 0 none):=by
 refine enter (nt:=4) (rs:=[.tmp 2]) Proofs.Tryz.func35 rfl rfl rfl (by simp) ?_
 simp -dsimp (disch:=omega) only[wpS,wpT,Nat.reduceEqDiff]
theorem is_ok {h:IH} (a b:Int):WV Proofs.Tryz.prog (.func (.func 36) #[] #[]) [KI a,KI b] h fun r h'=>r=.func (.func 88) #[] #[ptr (2*h.n) 0,ptr (2*(h.n+1)) 0]∧h'=(h.new (.cells [KI a] 0 none)).new (.cells [KI b] 0 none):=by
 refine enter (nt:=6) (rs:=[.tmp 4]) Proofs.Tryz.func36 rfl rfl rfl (by simp) ?_
 simp -dsimp (disch:=omega) only[wpS,wpT,Nat.reduceEqDiff,Nat.reduceAdd]
theorem fails1_ok {h:IH} {n d b:Nat} {e e':Int} (h1:n<W8) (h2:d<W8) (hb:b<h.n) (g:h.ext.get b=some (.cells [KI e'] 0 none)) :
  WV Proofs.Tryz.prog (.func (.func 87) #[] #[ptr (2*b) 0]) [shV n d,KI e] h fun r h'=>Ext h h'∧r=.bool (decide ((n=0∧d=0)∧e=e')):=by
 have hz:(.agg (shC 0 0).toArray:Value)=.agg #[.int .u64 0,.int .u64 0,.int .u64 0,.int .u64 0,.int .u64 0,.int .u64 0,.int .u64 0,.int .u64 0,.int .u64 0,.int .u64 0,.int .u64 0,.int .u64 0,.int .u64 0,.int .u64 0,.int .u64 0,.int .u64 0]:=by kernel_rfl
 have hne : ∀ox oy,binop Proofs.Tryz.prog .eql 30 ox oy (.agg (shC n d).toArray) (.agg #[.int .u64 0,.int .u64 0,.int .u64 0,.int .u64 0,.int .u64 0,.int .u64 0,.int .u64 0,.int .u64 0,.int .u64 0,.int .u64 0,.int .u64 0,.int .u64 0,.int .u64 0,.int .u64 0,.int .u64 0,.int .u64 0])=some (.bool (decide (n=0∧d=0))):=fun ox oy=>by
  rw[←hz]
  exact sh_eql h1 h2 (by decide +kernel) (by decide +kernel) ox oy
 have E1:Ext h (h.new (.cells (shC n d) 0 none)):=(Ext.refl h).new _
 refine enter (nt:=14) (rs:=[.tmp 5]) Proofs.Tryz.func87 rfl rfl rfl (by simp) ?_
 have k:=E1.kept hb g
 by_cases hd:n=0∧d=0
 ·rw[decide_eq_true hd] at hne
  by_cases he:e=e'
  ·have c:(e == e')=true:=by simpa using he
   simp -dsimp (disch:=omega) only[wpS,wpT,Nat.reduceEqDiff,Nat.reduceLeDiff,Nat.reduceAdd,ld30,bv30,ld40,shV_cells,shC_len,sh_take,row_of k,hne,c]
   exact⟨E1,by simp[hd,he]⟩
  ·have c:(e == e')=false:=by simpa using he
   simp -dsimp (disch:=omega) only[wpS,wpT,Nat.reduceEqDiff,Nat.reduceLeDiff,Nat.reduceAdd,ld30,bv30,ld40,shV_cells,shC_len,sh_take,row_of k,hne,c]
   exact⟨E1,by simp[he]⟩
 ·rw[decide_eq_false hd] at hne
  simp -dsimp (disch:=omega) only[wpS,wpT,Nat.reduceEqDiff,Nat.reduceLeDiff,Nat.reduceAdd,ld30,bv30,shV_cells,shC_len,sh_take,hne]
  exact⟨E1,by simp[hd]⟩
def shq (q:Rat):Nat×Nat:=(wideN q.num,wideN q.den)
theorem shq_lt {q:Rat} (h:QW q):(shq q).1<W8∧(shq q).2<W8:=⟨wideN_lt h.1,wideN_lt h.2⟩
theorem shareV_shq (q:Rat):shareV q=shV (shq q).1 (shq q).2:=rfl
set_option maxHeartbeats 1000000 in
theorem is1_ok {h:IH} {n d b b2:Nat} {e a a2:Int} (h1:n<W8) (h2:d<W8) (ha:In64 a) (ha2:In64 a2) (a0:a2≠0) (hb:b<h.n) (g:h.ext.get b=some (.cells [KI a] 0 none)) (hb2:b2<h.n) (g2:h.ext.get b2=some (.cells [KI a2] 0 none)) :
  WV Proofs.Tryz.prog (.func (.func 88) #[] #[ptr (2*b) 0,ptr (2*b2) 0]) [shV n d,KI e] h fun r h'=>Ext h h'∧r=.bool (decide ((n=(shq (Rat.divInt a a2)).1∧d=(shq (Rat.divInt a a2)).2)∧e=0)):=by
 obtain⟨h3,h4⟩:=shq_lt (qw_div ha ha2 a0)
 have hs:=shareV_shq (Rat.divInt a a2)
 generalize shq (Rat.divInt a a2)=s at h3 h4 hs ⊢
 obtain⟨n',d'⟩:=s
 simp only at h3 h4 hs ⊢
 have hne : ∀ox oy,binop Proofs.Tryz.prog .eql 30 ox oy (.agg (shC n d).toArray) (shV n' d')=some (.bool (decide (n=n'∧d=d'))):=fun ox oy=>sh_eql h1 h2 h3 h4 ox oy
 obtain⟨H0,hH0⟩ : ∃H,H=h.new (.cells (shC n d) 0 none):=⟨_,rfl⟩
 have E1:Ext h H0:=by rw[hH0];exact(Ext.refl h).new _
 have g0:H0.ext.get h.n=some (.cells (shC n d) 0 none):=by rw[hH0];simp (disch:=first|omega|(simp only[new_n,put_n];omega)|(repeat first|rw[new_n]|rw[put_n])) only[get_new_same]
 have n0:H0.n=h.n+1:=by rw[hH0];simp
 have k:=E1.kept hb g
 have k2:=E1.kept hb2 g2
 have X0:=Ext.refl H0
 have L0:load Proofs.Tryz.prog H0 30 (ptr (2*h.n) 0)=some (.agg (shC n d).toArray):=by
  have r:=row_of g0
  simp -dsimp (disch:=omega) only[wpS,Nat.reduceLeDiff,ld30,r,shC_len,sh_take]
 refine enter (nt:=16) (rs:=[.tmp 6]) Proofs.Tryz.func88 rfl rfl rfl (by simp) ?_
 simp -dsimp (disch:=omega) only[wpS,Nat.reduceEqDiff,Nat.reduceAdd,shV_cells]
 rw[←hH0]
 clear hH0
 refine drawn [(0,[10])] (by kernel_rfl) (by kernel_rfl) rfl ?_
 simp -dsimp (disch:=omega) only[wpS,Nat.reduceEqDiff,Nat.reduceLeDiff,ld30,ld3,row_of g0,row_of k,row_of k2,shC_len,sh_take]
 refine call (lawq_ok a a2 ha ha2 a0) ?_
 rintro _ h9 ⟨X9,rfl⟩
 rw[hs]
 by_cases hd:n=n'∧d=d'
 ·rw[decide_eq_true hd] at hne
  simp -dsimp (disch:=omega) only[wpS,wpT,Nat.reduceEqDiff,hne]
  refine⟨by repeat' first|refine wpSteady_c2 ?_ ?_|refine wpSteady_t2 ?_ ?_|exact wpSteady_one rfl rfl rfl rfl (steady_ext (H0:=H0) rfl (by omega) (by assumption) (by assumption) (by with_reducible assumption)),?_⟩
  simp -dsimp (disch:=omega) only[wpS,wpT,Nat.reduceEqDiff,Nat.reduceAdd]
  refine⟨E1.trans X9,?_⟩
  by_cases he:e=0<;>simp[hd,he]
 ·rw[decide_eq_false hd] at hne
  simp -dsimp (disch:=omega) only[wpS,wpT,Nat.reduceEqDiff,hne]
  refine⟨by repeat' first|refine wpSteady_c2 ?_ ?_|refine wpSteady_t2 ?_ ?_|exact wpSteady_one rfl rfl rfl rfl (steady_ext (H0:=H0) rfl (by omega) (by assumption) (by assumption) (by with_reducible assumption)),?_⟩
  simp -dsimp (disch:=omega) only[wpS,wpT,Nat.reduceEqDiff,Nat.reduceAdd]
  exact⟨E1.trans X9,by simp[hd]⟩
end Go.Id

/-! Contracts: slices.Equal over shares. -/
namespace Go.Id
open Go
set_option maxHeartbeats 1000000 in
theorem shequal_ok {h:IH} {v v2:Value} {l l2:List (Nat×Nat)} (hv:ShSl h v l) (hv2:ShSl h v2 l2) :
  WV Proofs.Tryz.prog (.func (.func 24) #[] #[]) [v,v2] h fun r h'=>Ext h h'∧r=.bool (decide (l=l2)):=by
 have hlb:=hv.2.1
 refine enter (nt:=26) (rs:=[.tmp 4]) Proofs.Tryz.func24 rfl rfl rfl (by simp) ?_
 by_cases hlen:l.length=l2.length
 case neg =>
  have c1:(!((l.length:Int) == (l2.length:Int)))=true:=by simp;omega
  have hne:l≠l2:=fun e=>hlen (by rw[e])
  simp -dsimp (maxSteps:=1000000) (disch:=first|omega|(simp only[new_n,put_n];omega)|decide +kernel|(repeat first|rw[new_n]|rw[put_n])) only[wpS,wpT,Nat.reduceEqDiff,Nat.reduceAdd,hv.1.len sl25,hv2.1.len sl25]
  exact⟨Ext.refl _,by simp[hne]⟩
 have c1:(!((l.length:Int) == (l2.length:Int)))=false:=by simp;omega
 simp -dsimp (maxSteps:=1000000) (disch:=first|omega|(simp only[new_n,put_n];omega)|decide +kernel|(repeat first|rw[new_n]|rw[put_n])) only[wpS,wpT,Nat.reduceEqDiff,Nat.reduceAdd,hv.1.len sl25,hv2.1.len sl25]
 refine loop (fun m fr hh => ∃i:Nat,i+m=l.length∧Ext h hh∧(∀j,j<i→l[j]?=l2[j]?)∧fget fr 0=some v∧fget fr 1=some v2∧fget fr 12=some (KN l.length)∧fget fr 13=some (KN i)) l.length
  ⟨0,by omega,Ext.refl _,fun j hj=>by omega,by simp,by simp,by simp,by simp⟩ ?_
 rintro m fr hh ⟨i,him,hE,hj,f0,f1,f12,f13⟩
 simp -dsimp (maxSteps:=1000000) (disch:=first|omega|(simp only[new_n,put_n];omega)|decide +kernel|(repeat first|rw[new_n]|rw[put_n])) only[wpS,f12,f13]
 refine bq_intro ?_ ?_<;>intro hc<;>simp only[decide_eq_true_eq,decide_eq_false_iff_not] at hc
 ·have hi:i<l.length:=by omega
  have hi2:i<l2.length:=by omega
  obtain⟨p,hp⟩ : ∃p,l[i]?=some p:=⟨_,List.getElem?_eq_getElem hi⟩
  obtain⟨q,hq⟩ : ∃p,l2[i]?=some p:=⟨_,List.getElem?_eq_getElem hi2⟩
  obtain⟨w1,w2⟩:=hv.2.2 p (List.mem_of_getElem? hp)
  obtain⟨w3,w4⟩:=hv2.2.2 q (List.mem_of_getElem? hq)
  have hne : ∀ox oy,binop Proofs.Tryz.prog .neq 30 ox oy (shV p.1 p.2) (shV q.1 q.2)=some (.bool (!decide (p.1=q.1∧p.2=q.2))):=fun ox oy=>sh_neq w1 w2 w3 w4 ox oy
  by_cases hd:p.1=q.1∧p.2=q.2
  ·rw[decide_eq_true hd] at hne
   simp -dsimp (maxSteps:=1000000) (disch:=first|omega|(simp only[new_n,put_n];omega)|decide +kernel|(repeat first|rw[new_n]|rw[put_n])) only[wpS,wpT,Nat.reduceEqDiff,f0,f1,f13,hv.1.idx es25 hi,hv2.1.idx es25 hi2,hv.ld hE.keep hp,hv2.ld hE.keep hq,hne]
   refine⟨m - 1,by omega,i+1,by omega,hE,?_,by simp[f0],by simp[f1],by simp[f12],by simp⟩
   intro j h1
   by_cases hji:j=i
   ·subst hji;rw[hp,hq];exact congrArg some (Prod.ext hd.1 hd.2)
   ·exact hj j (by omega)
  ·rw[decide_eq_false hd] at hne
   have hll:l≠l2:=by
    intro e
    rw[e,hq] at hp
    cases hp
    exact hd ⟨rfl,rfl⟩
   simp -dsimp (maxSteps:=1000000) (disch:=first|omega|(simp only[new_n,put_n];omega)|decide +kernel|(repeat first|rw[new_n]|rw[put_n])) only[wpS,wpT,Nat.reduceEqDiff,f0,f1,f13,hv.1.idx es25 hi,hv2.1.idx es25 hi2,hv.ld hE.keep hp,hv2.ld hE.keep hq,hne]
   exact⟨hE,by simp[hll]⟩
 ·have hll:l=l2:=by
   apply List.ext_getElem?
   intro j
   by_cases hjl:j<i
   ·exact hj j hjl
   ·rw[List.getElem?_eq_none (by omega),List.getElem?_eq_none (by omega)]
  simp -dsimp (maxSteps:=1000000) (disch:=first|omega|(simp only[new_n,put_n];omega)|decide +kernel|(repeat first|rw[new_n]|rw[put_n])) only[wpS,wpT]
  exact⟨hE,by simp[hll]⟩
end Go.Id

/-! Contracts: drafts of numbers. -/
namespace Go.Id
open Go
theorem drsmall_ok {h:IH} {b:Bool} {x:Value} {n:Int} (hx:([x]:List Value).all cellOK=true) (h0:0≤n) (hn:n<4294967296) :
  WV Proofs.Tryz.prog (.func (.func 46) #[] #[]) [.agg #[.bool b,x,.int .u32 n]] h fun r h'=>Ext h h' ∧ ∃z:Int,r=KI z ∧ -1000000≤z∧z≤1000000:=by
 have E1:Ext h (h.new (.cells [.bool b,x,.int .u32 n] 0 none)):=(Ext.refl h).new _
 have hm:0≤n % 1000001:=by omega
 have hm2:n % 1000001≤1000000:=by omega
 have hx':cellOK x=true:=by simpa using hx
 refine enter (nt:=13) (rs:=[.tmp 2]) Proofs.Tryz.func46 rfl rfl rfl (by simp) ?_
 simp -dsimp (disch:=omega) only[wpS,Nat.reduceEqDiff,fa34_2,ld32,cv32_3,fa34_0,ld4]
 cases b
 ·simp -dsimp (disch:=omega) only[wpS,Nat.reduceEqDiff]
  exact⟨E1,_,rfl,by omega,by omega⟩
 ·simp -dsimp (disch:=omega) only[wpS,Nat.reduceEqDiff]
  exact⟨E1,_,rfl,by omega,by omega⟩
theorem tmod_small (z:Int) : -1000<z.tmod 1000∧z.tmod 1000<1000:=by
 rcases Int.le_total 0 z with h|h
 ·rw[Int.tmod_eq_emod_of_nonneg h];omega
 ·obtain⟨w,rfl⟩ : ∃w,z = -w:=⟨-z,by omega⟩
  rw[Int.neg_tmod,Int.tmod_eq_emod_of_nonneg (by omega)];omega
theorem shortS_ok {h:IH} (a c:Int) (ha : -1000<a∧a<1000) (hc:0<c∧c<25):WV Proofs.Tryz.prog (.func (.func 47) #[] #[]) [wideV a,wideV c] h fun r h'=>Ext h h'∧r=shareV (Rat.divInt a c):=by
 have ia:In64 a:=⟨by omega,by omega⟩
 have ic:In64 c:=⟨by omega,by omega⟩
 have e1:wdI (wideN a)=a:=wdI_wideN (inW64 ia)
 have e2:wdI (wideN c)=c:=wdI_wideN (inW64 ic)
 have hz:wideN c≠0:=by
  intro e
  rw[e] at e2
  have:wdI 0=0:=by decide +kernel
  omega
 have hq:QW (Rat.divInt (wdI (wideN a)) (wdI (wideN c))):=by
  rw[e1,e2]
  exact qw_div ia ic (by omega)
 have:=madeS_ok (h:=h) (wideN a) (wideN c) (wideN_lt (inW64 ia)) (wideN_lt (inW64 ic)) hz hq
 rw[e1,e2] at this
 exact this
set_option maxHeartbeats 1000000 in
theorem drshort_ok {h:IH} {b b2:Bool} {x x2:Value} {n n2:Int} (hx:([x]:List Value).all cellOK=true) (hx2:([x2]:List Value).all cellOK=true) (h0:0≤n) (hn:n<4294967296) (g0:0≤n2) (gn:n2<4294967296) :
  WV Proofs.Tryz.prog (.func (.func 11) #[] #[]) [.agg #[.bool b,x,.int .u32 n,.bool b2,x2,.int .u32 n2]] h fun r h'=>Ext h h' ∧ ∃a c:Int,(-1000<a∧a<1000)∧(0<c∧c<25)∧r=shareV (Rat.divInt a c):=by
 have hx':cellOK x=true:=by simpa using hx
 have hx2':cellOK x2=true:=by simpa using hx2
 obtain⟨H0,hH0,n0,E0,k0,k1⟩:=boxes2 h [.bool b,x,.int .u32 n,.bool b2,x2,.int .u32 n2] Z16
 refine enter (nt:=21) (rs:=[.cell 2 30]) Proofs.Tryz.func11 rfl rfl rfl (by simp) ?_
 simp -dsimp (maxSteps:=1000000) (disch:=first|omega|(simp only[new_n,put_n];omega)|decide +kernel|(repeat first|rw[new_n]|rw[put_n])) only[wpS,wpT,Nat.reduceEqDiff,Nat.reduceLeDiff,Nat.reduceAdd,zc30,fa36_1,ld34]
 rw[←hH0]
 clear hH0
 refine call (drsmall_ok hx2 g0 gn) ?_
 rintro _ h1 ⟨X1,z,rfl,z0,z1⟩
 have m1:=X1.n
 have kx:=X1.kept (by omega) k0
 have cases2:z<0∨0≤z:=by omega
 rcases cases2 with hz|hz
 ·obtain⟨w,hw⟩ : ∃w,w = -z:=⟨_,rfl⟩
  have c1:decide (z<0)=true:=decide_eq_true hz
  simp -dsimp (maxSteps:=1000000) (disch:=first|omega|(simp only[new_n,put_n];omega)|decide +kernel|(repeat first|rw[new_n]|rw[put_n])) only[wpS,wpT,Nat.reduceEqDiff,Nat.reduceLeDiff,Nat.reduceAdd,ld34,fa36_0,c1,row_of kx]
  rw[←hw]
  refine call (drsmall_ok hx h0 hn) ?_
  rintro _ h2 ⟨X2,y,rfl,y0,y1⟩
  have m2:=X2.n
  have hr : ∀ox oy,binop Proofs.Tryz.prog .rem 3 ox oy (KI y) (KI 1000)=some (KI (y.tmod 1000)):=fun _ _=>binop_rem _ _ _ _ (by decide)
  have hy:=tmod_small y
  simp -dsimp (maxSteps:=1000000) (disch:=first|omega|(simp only[new_n,put_n];omega)|decide +kernel|(repeat first|rw[new_n]|rw[put_n])) only[wpS,Nat.reduceEqDiff,hr]
  refine call (refOf_ok (y.tmod 1000) ⟨by omega,by omega⟩) ?_
  rintro _ h3 ⟨X3,rfl⟩
  have m3:=X3.n
  simp -dsimp (maxSteps:=1000000) (disch:=first|omega|(simp only[new_n,put_n];omega)|decide +kernel|(repeat first|rw[new_n]|rw[put_n])) only[wpS,Nat.reduceEqDiff]
  refine call (refOf_ok (1+w % 24) ⟨by omega,by omega⟩) ?_
  rintro _ h4 ⟨X4,rfl⟩
  have m4:=X4.n
  simp -dsimp (maxSteps:=1000000) (disch:=first|omega|(simp only[new_n,put_n];omega)|decide +kernel|(repeat first|rw[new_n]|rw[put_n])) only[wpS,Nat.reduceEqDiff]
  refine call (shortS_ok (y.tmod 1000) (1+w % 24) hy ⟨by omega,by omega⟩) ?_
  rintro _ h5 ⟨X5,rfl⟩
  have m5:=X5.n
  have XX:=(((X1.trans X2).trans X3).trans X4).trans X5
  have k2:=XX.kept (by omega) k1
  simp -dsimp (maxSteps:=1000000) (disch:=first|omega|(simp only[new_n,put_n];omega)|decide +kernel|(repeat first|rw[new_n]|rw[put_n])) only[wpS,wpT,Nat.reduceEqDiff,Nat.reduceLeDiff,Nat.reduceAdd,st30,ld30,k2,shV_cells,shC_len,shC_all,sh_sp3,sh_take]
  exact⟨(E0.trans XX).put (by omega) _,_,_,hy,⟨by omega,by omega⟩,rfl⟩
 ·obtain⟨w,hw⟩ : ∃w,w=z:=⟨_,rfl⟩
  have c1:decide (z<0)=false:=decide_eq_false (by omega)
  simp -dsimp (maxSteps:=1000000) (disch:=first|omega|(simp only[new_n,put_n];omega)|decide +kernel|(repeat first|rw[new_n]|rw[put_n])) only[wpS,wpT,Nat.reduceEqDiff,Nat.reduceLeDiff,Nat.reduceAdd,ld34,fa36_0,c1,row_of kx]
  rw[←hw]
  refine call (drsmall_ok hx h0 hn) ?_
  rintro _ h2 ⟨X2,y,rfl,y0,y1⟩
  have m2:=X2.n
  have hr : ∀ox oy,binop Proofs.Tryz.prog .rem 3 ox oy (KI y) (KI 1000)=some (KI (y.tmod 1000)):=fun _ _=>binop_rem _ _ _ _ (by decide)
  have hy:=tmod_small y
  simp -dsimp (maxSteps:=1000000) (disch:=first|omega|(simp only[new_n,put_n];omega)|decide +kernel|(repeat first|rw[new_n]|rw[put_n])) only[wpS,Nat.reduceEqDiff,hr]
  refine call (refOf_ok (y.tmod 1000) ⟨by omega,by omega⟩) ?_
  rintro _ h3 ⟨X3,rfl⟩
  have m3:=X3.n
  simp -dsimp (maxSteps:=1000000) (disch:=first|omega|(simp only[new_n,put_n];omega)|decide +kernel|(repeat first|rw[new_n]|rw[put_n])) only[wpS,Nat.reduceEqDiff]
  refine call (refOf_ok (1+w % 24) ⟨by omega,by omega⟩) ?_
  rintro _ h4 ⟨X4,rfl⟩
  have m4:=X4.n
  simp -dsimp (maxSteps:=1000000) (disch:=first|omega|(simp only[new_n,put_n];omega)|decide +kernel|(repeat first|rw[new_n]|rw[put_n])) only[wpS,Nat.reduceEqDiff]
  refine call (shortS_ok (y.tmod 1000) (1+w % 24) hy ⟨by omega,by omega⟩) ?_
  rintro _ h5 ⟨X5,rfl⟩
  have m5:=X5.n
  have XX:=(((X1.trans X2).trans X3).trans X4).trans X5
  have k2:=XX.kept (by omega) k1
  simp -dsimp (maxSteps:=1000000) (disch:=first|omega|(simp only[new_n,put_n];omega)|decide +kernel|(repeat first|rw[new_n]|rw[put_n])) only[wpS,wpT,Nat.reduceEqDiff,Nat.reduceLeDiff,Nat.reduceAdd,st30,ld30,k2,shV_cells,shC_len,shC_all,sh_sp3,sh_take]
  exact⟨(E0.trans XX).put (by omega) _,_,_,hy,⟨by omega,by omega⟩,rfl⟩
end Go.Id

/-! Contracts: the law's small: some bool. -/
namespace Go.Id
open Go
theorem small1_ok {h:IH} {x b y:Nat} (hb:b<h.n) (g:h.ext.get b=some (.cells [K64 y] 0 none)) :
  WV Proofs.Tryz.prog (.func (.func 128) #[] #[ptr (2*b) 0]) [K64 x] h fun r h'=>Ext h h' ∧ ∃o,r=.bool o:=by
 refine enter (nt:=7) (rs:=[.tmp 3]) Proofs.Tryz.func128 rfl rfl rfl (by simp) ?_
 simp -dsimp (disch:=omega) only[wpS,Nat.reduceEqDiff,Nat.reduceAdd,ld26,row_of g]
 exact⟨Ext.refl _,_,rfl⟩
abbrev tailV (k:Nat):Value:=.slice (some ⟨2*k,2,none⟩) 6 13
theorem u64index_ok {h:IH} {k n b y:Nat} (hk:k<h.n) (gk:h.ext.get k=some (.cells (wdC n) 0 none)) (hb:b<h.n) (g:h.ext.get b=some (.cells [K64 y] 0 none)) :
  WV Proofs.Tryz.prog (.func (.func 162) #[] #[]) [tailV k,.func (.func 128) #[] #[ptr (2*b) 0]] h fun r h'=>Ext h h' ∧ ∃c:Int,r=KI c:=by
 refine enter (nt:=19) (rs:=[.tmp 4]) Proofs.Tryz.func162 rfl rfl rfl (by simp) ?_
 simp -dsimp (disch:=omega) only[wpS,Nat.reduceEqDiff,Nat.reduceAdd,ln79]
 refine loop (fun m fr h1 => ∃i:Nat,i+m=6∧Ext h h1∧fget fr 0=some (tailV k)∧fget fr 1=some (.func (.func 128) #[] #[ptr (2*b) 0])∧fget fr 7=some (KN 6)∧fget fr 8=some (KN i)) 6
  ⟨0,by omega,Ext.refl _,by simp,by simp,by simp,by simp⟩ ?_
 rintro m fr h1 ⟨i,him,hE,f0,f1,f7,f8⟩
 have hnn:=hE.n
 simp -dsimp (disch:=omega) only[wpS,f7,f8]
 refine bq_intro ?_ ?_<;>intro hc<;>simp only[decide_eq_true_eq,decide_eq_false_iff_not] at hc
 ·have hi:i<6:=by omega
  have hg:=row_of (hE.kept hk gk)
  simp -dsimp (disch:=omega) only[wpS,wpT,Nat.reduceEqDiff,es79,ld26,f0,f1,f8,hg,wdC_get n (2+i) (by omega)]
  refine call (small1_ok (x:=wrd n (2+i)) (by omega) (hE.kept hb g)) ?_
  rintro _ h2 ⟨hE2,o,rfl⟩
  cases o
  ·simp -dsimp (disch:=omega) only[wpS,Nat.reduceEqDiff,f8]
   exact⟨m - 1,by omega,i+1,by omega,hE.trans hE2,by simp[f0],by simp[f1],by simp[f7],by simp⟩
  ·simp -dsimp (disch:=omega) only[wpS,Nat.reduceEqDiff]
   exact⟨hE.trans hE2,_,rfl⟩
 ·simp -dsimp (disch:=omega) only[wpS,wpT]
  exact⟨hE,_,rfl⟩
theorem u64wrap (x:Int) : ∃y:Nat,IntKind.u64.wrap x=(y:Int):=by
 have h:0≤IntKind.u64.wrap x:=by
  show 0≤x % 18446744073709551616
  omega
 exact⟨_,(Int.toNat_of_nonneg h).symm⟩
theorem u64contains_ok {h:IH} {k n b y:Nat} (hk:k<h.n) (gk:h.ext.get k=some (.cells (wdC n) 0 none)) (hb:b<h.n) (g:h.ext.get b=some (.cells [K64 y] 0 none)) :
  WV Proofs.Tryz.prog (.func (.func 127) #[] #[]) [tailV k,.func (.func 128) #[] #[ptr (2*b) 0]] h fun r h'=>Ext h h' ∧ ∃o,r=.bool o:=by
 refine enter (nt:=9) (rs:=[.tmp 4]) Proofs.Tryz.func127 rfl rfl rfl (by simp) ?_
 simp -dsimp (disch:=omega) only[wpS,Nat.reduceEqDiff,Nat.reduceAdd]
 refine call (u64index_ok hk gk hb g) ?_
 rintro _ h1 ⟨X1,c,rfl⟩
 simp -dsimp (disch:=omega) only[wpS,Nat.reduceEqDiff]
 exact⟨X1,_,rfl⟩
theorem lawsmall_ok {h:IH} (n:Nat):WV Proofs.Tryz.prog (.func (.func 76) #[] #[]) [wdV n] h fun r h'=>Ext h h' ∧ ∃o,r=.bool o:=by
 obtain⟨s,hs⟩ : ∃s:Int,s=IntKind.i64.wrap (wrd n 7):=⟨_,rfl⟩
 obtain⟨q,hq⟩ : ∃q:Int,q=Int.fdiv s (2 ^ (min (63:Int).toNat IntKind.i64.bits)):=⟨_,rfl⟩
 have hb : ∀ox oy,binop Proofs.Tryz.prog .shr 2 ox oy (.int .i64 s) (.int .u64 63)=some (.int .i64 q):=fun ox oy=>by rw[hq];exact binop_shr _ _ _ _ (by decide)
 clear hq
 obtain⟨y,hy⟩:=u64wrap q
 have E1:Ext h (((h.new (.cells (wdC n) 0 none)).new (.cells [.int .u64 0] 0 none)).put (h.n+1) (.cells [K64 y] 0 none)):=(((Ext.refl h).new _).new _).put (by omega) _
 obtain⟨H0,hH0⟩ : ∃H0,H0=((h.new (.cells (wdC n) 0 none)).new (.cells [.int .u64 0] 0 none)).put (h.n+1) (.cells [K64 y] 0 none):=⟨_,rfl⟩
 have n0:H0.n=h.n+2:=by rw[hH0];rfl
 have k0:H0.ext.get h.n=some (.cells (wdC n) 0 none):=by rw[hH0];simp (disch:=first|omega|(simp only[new_n,put_n];omega)|(repeat first|rw[new_n]|rw[put_n])) only[get_new_same,get_new_old,get_put_old]
 have k1:H0.ext.get (h.n+1)=some (.cells [K64 y] 0 none):=by rw[hH0];simp (disch:=first|omega|(simp only[new_n,put_n];omega)|(repeat first|rw[new_n]|rw[put_n])) only[get_put_same]
 rw[←hH0] at E1
 refine enter (nt:=13) (rs:=[.tmp 2]) Proofs.Tryz.func76 rfl rfl rfl (by simp) ?_
 simp -dsimp (maxSteps:=1000000) (disch:=first|omega|(simp only[new_n,put_n];omega)|decide +kernel|(repeat first|rw[new_n]|rw[put_n])) only[wpS,wpT,Nat.reduceEqDiff,Nat.reduceLeDiff,ar28,ld26,cv26_2,cv2_26,zc26,st26,cells8,wdC_get n 7 (by omega),show idxAt 7 8=some 7 from rfl,ar28,←hs,hb,hy]
 rw[←hH0]
 clear hH0
 have hsl:sliceOp Proofs.Tryz.prog H0 28 (ptr (2*h.n) 0) (some (KI 2)) none none=some (tailV h.n):=by kernel_rfl
 simp -dsimp (maxSteps:=1000000) (disch:=first|omega|(simp only[new_n,put_n];omega)|decide +kernel|(repeat first|rw[new_n]|rw[put_n])) only[wpS,Nat.reduceEqDiff,hsl]
 refine call (u64contains_ok (k:=h.n) (b:=h.n+1) (by omega) k0 (by omega) k1) ?_
 rintro _ h1 ⟨X1,o,rfl⟩
 simp -dsimp (maxSteps:=1000000) (disch:=first|omega|(simp only[new_n,put_n];omega)|decide +kernel|(repeat first|rw[new_n]|rw[put_n])) only[wpS,Nat.reduceEqDiff]
 exact⟨E1.trans X1,_,rfl⟩
end Go.Id

/-! Contracts: the reference's valid shares. -/
namespace Go.Id
open Go
end Go.Id

/-! Contracts: the reference's chapter 35: chains, means, autocovariances. -/
namespace Go.Id
open Go
end Go.Id

/-! Contracts: the reference's chapter 35: Batches. -/
namespace Go.Id
open Go
theorem shL_drop : ∀(i:Nat) (l:List (Nat×Nat)),shL (l.drop i)=(shL l).drop (i*16)
 | 0,l=>by simp
 | i+1,[]=>by simp[shL]
 | i+1,a :: l=>by
  rw[List.drop_succ_cons,shL_drop i l,shL,shL,List.flatMap_cons,show(i+1)*16=(shC a.1 a.2).length+i*16 by rw[shC_len];omega,List.drop_length_add_append]
theorem shL_take : ∀(i:Nat) (l:List (Nat×Nat)),shL (l.take i)=(shL l).take (i*16)
 | 0,l=>by simp[shL]
 | i+1,[]=>by simp[shL]
 | i+1,a :: l=>by
  have ih:=shL_take i l
  simp only[shL] at ih
  rw[List.take_succ_cons,shL,shL,List.flatMap_cons,List.flatMap_cons,show(i+1)*16=(shC a.1 a.2).length+i*16 by rw[shC_len];omega,List.take_length_add_append,ih]
theorem ShSl.sub {h h':IH} {v:Value} {l:List (Nat×Nat)} (s:ShSl h v l) (kp:Keep h h') {i m:Nat} (hi:i≤m) (hm:m≤l.length) :
  ∃v',sliceOp Proofs.Tryz.prog h' 25 v (some (KN i)) (some (KN m)) none=some v'∧ShSl h v' ((l.drop i).take (m - i)):=by
 obtain⟨a,b,c⟩:=s
 obtain⟨v',e1,e2⟩:=a.slice kp (P:=Proofs.Tryz.prog) (t:=25) u25 sz30 (l:=i) (m:=m) hi hm (lo:=some (KN i)) (hi:=some (KN m)) (natOf_nat (k:=.i64) hi) (fun c hc=>natOf_nat (k:=.i64) (by omega))
 have hlen:((l.drop i).take (m - i)).length=m - i:=by simp;omega
 refine⟨v',e1,?_,by omega,fun p hp=>c p (List.mem_of_mem_drop (List.mem_of_mem_take hp))⟩
 rw[hlen,shL_take,shL_drop]
 exact e2
end Go.Id

/-! Contracts: the laws' helpers: lists cut, cloned and made longer. -/
namespace Go.Id
open Go
def ShArg (h:IH) (v:Value) (l:List (Nat×Nat)):Prop:=SlOf h 16 v l.length (shL l) ∧ ∀p∈l,p.1<W8∧p.2<W8
theorem ShSl.arg {h:IH} {v:Value} {l:List (Nat×Nat)} (s:ShSl h v l):ShArg h v l:=⟨s.1,s.2.2⟩
theorem ShArg.keep {h h':IH} {v:Value} {l:List (Nat×Nat)} (s:ShArg h v l) (e:Keep h h'):ShArg h' v l:=⟨s.1.keep e,s.2⟩
theorem ShArg.first {h h':IH} {v:Value} {l:List (Nat×Nat)} (s:ShArg h v l) (kp:Keep h h') {m:Nat} (hm:m≤l.length) (hm2:m≤100000) : ∃v',sliceOp Proofs.Tryz.prog h' 25 v none (some (KN m)) none=some v'∧ShSl h v' (l.take m):=by
 obtain⟨a,c⟩:=s
 obtain⟨v',e1,e2⟩:=a.slice kp (P:=Proofs.Tryz.prog) (t:=25) u25 sz30 (l:=0) (m:=m) (Nat.zero_le _) hm (lo:=none) (hi:=some (KN m)) rfl (fun c hc=>natOf_nat (k:=.i64) (by omega))
 refine⟨v',e1,?_,by rw[List.length_take];omega,fun p hp=>c p (List.mem_of_mem_take hp)⟩
 rw[List.length_take,Nat.min_eq_left hm,shL_take]
 simpa using e2
set_option maxHeartbeats 1000000 in
theorem light_acc {h:IH} {v:Value} {l:List (Nat×Nat)} (hv:ShArg h v l) :
  WV Proofs.Tryz.prog (.func (.func 26) #[] #[]) [v] h fun r h'=>Ext h h' ∧ ∃l',Acc h' h.n 16 r l'.length (shL l')∧(∀p∈l',p.1<W8∧p.2<W8)∧l'.length≤3∧(l' = []→r=.slice none 0 0):=by
 obtain⟨M,hM⟩ : ∃M,M=min l.length 3:=⟨_,rfl⟩
 obtain⟨w,hw,hs⟩:=hv.first (Keep.refl h) (m:=M) (by omega) (by omega)
 have hwl:(l.take M).length=M:=by rw[List.length_take];omega
 have hwn:=hs.1
 rw[hwl] at hwn
 have hmin:(if (3:Int)<(l.length:Int) then (3:Int) else (l.length:Int))=(M:Int):=by split<;>omega
 refine enter (nt:=33) (rs:=[.tmp 2]) Proofs.Tryz.func26 rfl rfl rfl (by simp) ?_
 simp -dsimp (disch:=omega) only[wpS,Nat.reduceEqDiff,hv.1.len sl25,min_ii,hmin,hw,hwn.len sl25]
 refine loop (fun m fr hh => ∃(i:Nat) (out:Value) (l':List (Nat×Nat)),i+m=M∧l'.length=i∧(∀p∈l',p.1<W8∧p.2<W8)∧Ext h hh∧Acc hh h.n 16 out l'.length (shL l')∧(l' = []→out=.slice none 0 0)∧fget fr 3=some out∧fget fr 10=some w∧fget fr 11=some (KN M)∧fget fr 12=some (KN i)) M
  ⟨0,.slice none 0 0,[],by omega,rfl,(fun p hp=>by cases hp),Ext.refl _,Acc.nil _ _ (by omega),fun _=>rfl,by simp,by simp,by simp,by simp⟩ ?_
 rintro m fr hh ⟨i,out,l',him,hil,hlt,hE,hA,hO,f3,f10,f11,f12⟩
 have hnn:=hE.n
 simp -dsimp (disch:=omega) only[wpS,f11,f12]
 refine bq_intro ?_ ?_<;>intro hc<;>simp only[decide_eq_true_eq,decide_eq_false_iff_not] at hc
 ·have hi:i<M:=by omega
  obtain⟨p,hp⟩ : ∃p,(l.take M)[i]?=some p:=⟨_,List.getElem?_eq_getElem (by omega)⟩
  obtain⟨p1,p2⟩:=hs.2.2 p (List.mem_of_getElem? hp)
  obtain⟨H0,hH0⟩ : ∃H0,H0=(hh.new (.cells Z16 0 none)).put hh.n (.cells (shC p.1 p.2) 0 none):=⟨_,rfl⟩
  have n0:H0.n=hh.n+1:=by rw[hH0];rfl
  have k0:H0.ext.get hh.n=some (.cells (shC p.1 p.2) 0 none):=by rw[hH0];simp (disch:=first|omega|(simp only[new_n,put_n];omega)|(repeat first|rw[new_n]|rw[put_n])) only[get_put_same]
  have E0:Ext hh H0:=by rw[hH0];exact((Ext.refl hh).new _).put (by omega) _
  obtain⟨L1,L2,L3⟩:=psh k0
  simp -dsimp (disch:=omega) only[wpS,wpT,Nat.reduceEqDiff,Nat.reduceLeDiff,Nat.reduceAdd,zc30,st30,fa30_0,ld28,f10,f12,hwn.idx es25 hi,hs.ld hE.keep hp,shV_cells,shC_len,shC_all,sh_sp3]
  rw[←hH0]
  clear hH0
  simp -dsimp (disch:=omega) only[sh_take1]
  refine call (lawsmall_ok p.1) ?_
  rintro _ h1 ⟨X1,o,rfl⟩
  have m1:=X1.n
  have k1':=X1.kept (by omega) k0
  cases o
  ·simp -dsimp (disch:=omega) only[wpS,wpT,Nat.reduceEqDiff,st30,bv30]
   obtain⟨H1,hH1⟩ : ∃H1,H1=h1.put hh.n (.cells Z16 0 none):=⟨_,rfl⟩
   have n1:H1.n=h1.n:=by rw[hH1];rfl
   have k1:H1.ext.get hh.n=some (.cells (shC 0 0) 0 none):=by rw[hH1,←sh_zero];simp (disch:=first|omega|(simp only[new_n,put_n];omega)|(repeat first|rw[new_n]|rw[put_n])) only[get_put_same]
   have E1:Ext hh H1:=by rw[hH1];exact(E0.trans X1).put (by omega) _
   have kz:h1.ext.get hh.n=some (.cells (shC p.1 p.2) 0 none):=X1.kept (by omega) k0
   simp -dsimp (disch:=omega) only[wpS,wpT,Nat.reduceEqDiff,Nat.reduceLeDiff,Nat.reduceAdd,kz,shC_len,splice_all (show(shC p.1 p.2).length=Z16.length by rw[shC_len];rfl)]
   rw[←hH1]
   clear hH1
   obtain⟨out',h8,hap,hA8,hG8,hE8⟩:=(hA.ext E1).appN (P:=Proofs.Tryz.prog) (t:=25) ap25 (m:=1) (new:=shC 0 0) (by omega) (by rw[shC_len]) (shC_all _ _) (by omega) (by omega) (hE.trans E1) (Nat.le_refl _)
   have hap':append Proofs.Tryz.prog (H1.new (.cells (shC 0 0) 16 none)) 25 out (.slice (some ⟨2*H1.n,0,none⟩) 1 3)=some (out',h8):=hap
   simp -dsimp (disch:=omega) only[wpS,wpT,Nat.reduceEqDiff,Nat.reduceLeDiff,Nat.reduceAdd,ld30,bs25,ba25_25,f3,f12,row_of k1,shC_len,sh_take,sh_sp3,hap']
   refine⟨m - 1,by omega,i+1,out',l' ++ [(0,0)],by omega,by simp[hil],?_,hE8,?_,by simp,by simp,by simp[f10],by simp[f11],by simp⟩
   ·intro q hq
    rcases List.mem_append.1 hq with hq|hq
    ·exact hlt q hq
    ·obtain rfl:=List.mem_singleton.1 hq
     exact⟨by decide +kernel,by decide +kernel⟩
   ·rw[shL_snoc,List.length_append]
    exact hA8
  ·simp -dsimp (disch:=omega) only[wpS,wpT,Nat.reduceEqDiff,Nat.reduceLeDiff,Nat.reduceAdd,ld28,fa30_1,row_of k1',shC_len,sh_take2]
   refine call (lawsmall_ok p.2) ?_
   rintro _ h2 ⟨X2,o,rfl⟩
   have m2:=X2.n
   have X12:=X1.trans X2
   cases o
   ·simp -dsimp (disch:=omega) only[wpS,wpT,Nat.reduceEqDiff,st30,bv30]
    obtain⟨H1,hH1⟩ : ∃H1,H1=h2.put hh.n (.cells Z16 0 none):=⟨_,rfl⟩
    have n1:H1.n=h2.n:=by rw[hH1];rfl
    have k1:H1.ext.get hh.n=some (.cells (shC 0 0) 0 none):=by rw[hH1,←sh_zero];simp (disch:=first|omega|(simp only[new_n,put_n];omega)|(repeat first|rw[new_n]|rw[put_n])) only[get_put_same]
    have E1:Ext hh H1:=by rw[hH1];exact(E0.trans X12).put (by omega) _
    have kz:h2.ext.get hh.n=some (.cells (shC p.1 p.2) 0 none):=X12.kept (by omega) k0
    simp -dsimp (disch:=omega) only[wpS,wpT,Nat.reduceEqDiff,Nat.reduceLeDiff,Nat.reduceAdd,kz,shC_len,splice_all (show(shC p.1 p.2).length=Z16.length by rw[shC_len];rfl)]
    rw[←hH1]
    clear hH1
    obtain⟨out',h8,hap,hA8,hG8,hE8⟩:=(hA.ext E1).appN (P:=Proofs.Tryz.prog) (t:=25) ap25 (m:=1) (new:=shC 0 0) (by omega) (by rw[shC_len]) (shC_all _ _) (by omega) (by omega) (hE.trans E1) (Nat.le_refl _)
    have hap':append Proofs.Tryz.prog (H1.new (.cells (shC 0 0) 16 none)) 25 out (.slice (some ⟨2*H1.n,0,none⟩) 1 3)=some (out',h8):=hap
    simp -dsimp (disch:=omega) only[wpS,wpT,Nat.reduceEqDiff,Nat.reduceLeDiff,Nat.reduceAdd,ld30,bs25,ba25_25,f3,f12,row_of k1,shC_len,sh_take,sh_sp3,hap']
    refine⟨m - 1,by omega,i+1,out',l' ++ [(0,0)],by omega,by simp[hil],?_,hE8,?_,by simp,by simp,by simp[f10],by simp[f11],by simp⟩
    ·intro q hq
     rcases List.mem_append.1 hq with hq|hq
     ·exact hlt q hq
     ·obtain rfl:=List.mem_singleton.1 hq
      exact⟨by decide +kernel,by decide +kernel⟩
    ·rw[shL_snoc,List.length_append]
     exact hA8
   ·simp -dsimp (disch:=omega) only[wpS,wpT,Nat.reduceEqDiff]
    have k2:=X12.kept (by omega) k0
    have E2:=E0.trans X12
    obtain⟨out',h8,hap,hA8,hG8,hE8⟩:=(hA.ext E2).appN (P:=Proofs.Tryz.prog) (t:=25) ap25 (m:=1) (new:=shC p.1 p.2) (by omega) (by rw[shC_len]) (shC_all _ _) (by omega) (by omega) (hE.trans E2) (Nat.le_refl _)
    have hap':append Proofs.Tryz.prog (h2.new (.cells (shC p.1 p.2) 16 none)) 25 out (.slice (some ⟨2*h2.n,0,none⟩) 1 3)=some (out',h8):=hap
    simp -dsimp (disch:=omega) only[wpS,wpT,Nat.reduceEqDiff,Nat.reduceLeDiff,Nat.reduceAdd,ld30,bs25,ba25_25,f3,f12,row_of k2,shC_len,sh_take,sh_sp3,hap']
    refine⟨m - 1,by omega,i+1,out',l' ++ [(p.1,p.2)],by omega,by simp[hil],?_,hE8,?_,by simp,by simp,by simp[f10],by simp[f11],by simp⟩
    ·intro q hq
     rcases List.mem_append.1 hq with hq|hq
     ·exact hlt q hq
     ·obtain rfl:=List.mem_singleton.1 hq
      exact⟨p1,p2⟩
    ·rw[shL_snoc,List.length_append]
     exact hA8
 ·obtain rfl:i=M:=by omega
  simp -dsimp (disch:=omega) only[wpS,wpT,Nat.reduceEqDiff,f3]
  refine⟨hE,l',hA,hlt,by omega,hO⟩
theorem light_ok {h:IH} {v:Value} {l:List (Nat×Nat)} (hv:ShArg h v l) :
  WV Proofs.Tryz.prog (.func (.func 26) #[] #[]) [v] h fun r h'=>Ext h h' ∧ ∃l',ShSl h' r l'∧l'.length≤3∧(l' = []→r=.slice none 0 0):=by
 refine(light_acc hv).mono ?_
 rintro r h' ⟨X,l',A,hlt,h3,hO⟩
 exact⟨X,l',⟨A.sl,by omega,hlt⟩,h3,hO⟩
end Go.Id
