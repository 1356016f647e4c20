/-
  Contracts: package diagnose: Batches. Contracts: the reference's fractions: lowest terms. Contracts: the reference's fractions: sums, differences, products, quotients, order. Contracts: the reference's shares: in, out, made, valid; fractions of integers. Contracts: the laws' own helpers: shares of integers, lists of them. Shares compared. Contracts: the laws' own helpers: is, fails, is2. Contracts: slices.Equal over shares. Contracts: drafts of numbers. Contracts: the law's small: some bool. Contracts: the reference's valid shares. Contracts: the reference's chapter 35: chains, means, autocovariances. Contracts: the reference's chapter 35: Batches. Contracts: the laws' helpers: lists cut, cloned and made longer. Contracts: the laws' helpers: short shares of drafts; a list made as long as the limit. The rows' common part (no table listed): shares and drafts that came in. Contracts: package diagnose: what is wrong with several chains. Contracts: the reference's chapter 35: what is wrong with several chains. Contracts: the reference's chapter 35: autocovariances, Mean, Auto. Contracts: package diagnose: the variance within. Contracts: package diagnose: the variance within, and that of the means.
-/
import Derived.Test.YthbkinefgmfgeaaDiagnoseKnownAj
import Derived.Test.YthbkinefgmfgeaaDiagnoseKnownAi
import Derived.Test.YthbkinefgmfgeaaDiagnoseKnownAh
import Derived.Test.YthbkinefgmfgeaaDiagnoseKnownAg
import Derived.Test.YthbkinefgmfgeaaDiagnoseKnownAf
import Derived.Test.YthbkinefgmfgeaaDiagnoseKnownAe
import Derived.Test.YthbkinefgmfgeaaRows
import Derived.ProofKit
set_option linter.unusedVariables false
set_option linter.unusedSimpArgs false
set_option linter.defProp false
set_option linter.deprecated false
/-! Contracts: package diagnose: Batches. -/
namespace Go.Id
open Go
def shOf (q:Rat):Nat×Nat:=(wideN q.num,wideN (q.den:Int))
theorem shOf_lt {q:Rat} (h:QW q):(shOf q).1<W8∧(shOf q).2<W8:=⟨wideN_lt h.1,wideN_lt h.2⟩
def bmean (l:List Rat) (sz j:Nat):Rat:=qmean ((l.drop (j*sz)).take sz)
def bmeans (l:List Rat) (sz:Nat):List Rat:=(List.range (l.length / sz)).map (bmean l sz)
noncomputable def batErr (l:List (Nat×Nat)) (sz:Int):Int:=open Classical in if chErr l=0 then (if 1≤sz∧sz≤l.length then (if ∀q∈bmeans (l.map rOf) sz.toNat,QW q then 0 else 6) else 2) else chErr l
theorem bmeans_len (l:List Rat) (sz:Nat):(bmeans l sz).length=l.length / sz:=by simp[bmeans]
theorem bmeans_at {l:List Rat} {sz j:Nat} (h:j<l.length / sz):(bmeans l sz)[j]?=some (bmean l sz j):=by simp[bmeans,h]
theorem shL_snoc (l:List (Nat×Nat)) (p:Nat×Nat):shL (l ++ [p])=shL l ++ shC p.1 p.2:=by simp[shL]
theorem Acc.putLoop {h:IH} {n0 sz:Nat} {v:Value} {n:Nat} {cs:List Value} (a:Acc h n0 sz v n cs) {k:Nat} {r:ILoop} (hr:h.ext.get k=some (.loop r)) (o:IObj):Acc (h.put k o) n0 sz v n cs:=by
 obtain⟨hz,hl,a|⟨kk,fam,rfl,hn,q1,q2,q3,q4⟩⟩:=a
 ·exact⟨hz,hl,.inl a⟩
 ·refine⟨hz,hl,.inr ⟨kk,fam,rfl,hn,q1,q2,?_,?_⟩⟩
  ·rw[get_put_old _ _ (by rintro rfl;rw[hr] at q3;cases q3)];exact q3
  ·cases fam<;>exact q4
set_option maxHeartbeats 8000000 in
theorem dgBatches_ok {h:IH} {v:Value} {l:List (Nat×Nat)} {size:Int} (hv:ShSl h v l) {k:Nat} (hk:allOk l → ∀q∈l.map rOf,QB k q) (hb:l.length≤200→mBits l.length k<16000000) :
  WV Proofs.Try.prog (.func (.func 12) #[] #[]) [v,KI size] h fun r h'=>Ext h h' ∧ ∃s,r=.tuple #[s,KI (batErr l size)]∧if batErr l size=0 then ShSl h' s ((bmeans (l.map rOf) size.toNat).map shOf) else s=.slice none 0 0:=by
 have her:=chErr_range l
 refine enter (nt:=47) (rs:=[.cell 4 28,.cell 5 32]) Proofs.Try.func12 rfl rfl rfl (by simp) ?_
 simp -dsimp (disch:=omega) only[wpS,Nat.reduceEqDiff,Nat.reduceAdd,zc28,zc32]
 obtain⟨H0,hH0,n0,E0,g0,g1,g2⟩:=boxes3 h [KI size] [.slice none 0 0] [KI 0]
 rw[←hH0]
 clear hH0
 refine call (dgcheck_ok (hv.keep E0.keep)) ?_
 rintro _ h1 ⟨X1,rfl⟩
 have m1:=X1.n
 have k0:=X1.kept (by omega) g0
 have k1:=X1.kept (by omega) g1
 have k2:=X1.kept (by omega) g2
 have E1:=E0.trans X1
 have errEnd : ∀(e:Int),e≠0→batErr l size=e → ∀hh:IH,Ext h hh→(Ext h hh ∧ ∃s,Value.tuple #[.slice none 0 0,KI e]=.tuple #[s,KI (batErr l size)]∧if batErr l size=0 then ShSl hh s ((bmeans (l.map rOf) size.toNat).map shOf) else s=.slice none 0 0):=by
  intro e he hbe hh hE
  exact⟨hE,_,by rw[hbe],by rw[if_neg (by rw[hbe];exact he)]⟩
 by_cases he:chErr l=0
 case neg =>
  have hbe:batErr l size=chErr l:=by rw[batErr,if_neg he]
  have he':(chErr l == 0)=false:=by simpa using he
  simp -dsimp (disch:=omega) only[wpS,wpT,Nat.reduceEqDiff,Nat.reduceLeDiff,st28,st32,ld28,ld32,k1,k2]
  exact errEnd _ he hbe _ ((E1.put (by omega) _).put (by omega) _)
 obtain⟨e1,e2,e3⟩:=chErr_iff.1 he
 have hl0:0<l.length:=List.length_pos_iff.2 e3
 have hkk:=hk e2
 have hbb:=hb e1
 rw[he]
 by_cases hsz:1≤size∧size≤l.length
 case neg =>
  have hbe:batErr l size=2:=by rw[batErr,if_pos he,if_neg hsz]
  by_cases hlt:size<1
  ·have c1:decide (size<1)=true:=decide_eq_true hlt
   simp -dsimp (disch:=omega) only[wpS,wpT,Nat.reduceEqDiff,Nat.reduceLeDiff,zc28,st28,st32,ld3,ld28,ld32,row_of k0,k1,k2,c1]
   exact errEnd _ (by omega) hbe _ ((E1.put (by omega) _).put (by omega) _)
  ·have c1:decide (size<1)=false:=decide_eq_false hlt
   have c2:decide ((l.length:Int)<size)=true:=decide_eq_true (by omega)
   simp -dsimp (disch:=omega) only[wpS,wpT,Nat.reduceEqDiff,Nat.reduceLeDiff,zc28,st28,st32,ld3,ld28,ld32,row_of k0,k1,k2,c1,c2,hv.1.len sl28]
   exact errEnd _ (by omega) hbe _ ((E1.put (by omega) _).put (by omega) _)
 obtain⟨sz,rfl⟩:=Int.eq_ofNat_of_zero_le (show 0≤size by omega)
 have hs1:1≤sz:=by omega
 have hs2:sz≤l.length:=by omega
 rw[Int.toNat_natCast] at errEnd ⊢
 have c1:decide ((sz:Int)<1)=false:=decide_eq_false (by omega)
 have c2:decide ((l.length:Int)<(sz:Int))=false:=decide_eq_false (by omega)
 simp -dsimp (disch:=omega) only[wpS,wpT,Nat.reduceEqDiff,zc28,ld3,row_of k0,c1,c2,hv.1.len sl28]
 have x2:Ext h1 (h1.new (.cells [.slice none 0 0] 0 none)):=(Ext.refl h1).new _
 obtain⟨H2,hH2⟩ : ∃H2,H2=h1.new (.cells [.slice none 0 0] 0 none):=⟨_,rfl⟩
 have n2:H2.n=h1.n+1:=by rw[hH2];rfl
 have g7:H2.ext.get h1.n=some (.cells [.slice none 0 0] 0 none):=by rw[hH2];simp (disch:=first|omega|(simp only[new_n,put_n];omega)|(repeat first|rw[new_n]|rw[put_n])) only[get_new_same]
 rw[←hH2] at x2 ⊢
 clear hH2
 have E2:=E1.trans x2
 have j0:=x2.kept (by omega) k0
 have j1:=x2.kept (by omega) k1
 have j2:=x2.kept (by omega) k2
 have X0:=Ext.refl H2
 have L1:load Proofs.Try.prog H2 3 (ptr (2*h.n) 0)=some (KN sz):=by
  have r:=row_of j0
  simp -dsimp (disch:=omega) only[wpS,ld3,r]
 refine drawn [(2,[1])] (by kernel_rfl) (by kernel_rfl) rfl ?_
 simp -dsimp (disch:=omega) only[wpS,Nat.reduceEqDiff]
 refine call (read_list_ok (hv.keep E2.keep) e2 (by omega)) ?_
 rintro ls h3 ⟨X3,hls⟩
 have m3:=X3.n
 simp -dsimp (disch:=omega) only[wpS,Nat.reduceEqDiff,ld3,row_of (X3.kept (by omega) j0)]
 refine call (chunk_ok hls.co.1 hs1) ?_
 rintro _ _ ⟨rfl,rfl⟩
 simp -dsimp (disch:=omega) only[wpS]
 have X4:Ext h3 ((h3.new (.cells [ls] 0 none)).new (.cells [KN sz] 0 none)):=((Ext.refl _).new _).new _
 refine⟨by repeat' first|refine wpSteady_c2 ?_ ?_|refine wpSteady_t2 ?_ ?_|exact wpSteady_one rfl rfl rfl rfl (steady_ext (H0:=H2) rfl (by omega) (by assumption) (by assumption) (by with_reducible assumption)),?_⟩
 obtain⟨H4,hH4⟩ : ∃H4,H4=(h3.new (.cells [ls] 0 none)).new (.cells [KN sz] 0 none):=⟨_,rfl⟩
 have n4:H4.n=h3.n+2:=by rw[hH4];rfl
 have gc:H4.ext.get h3.n=some (.cells [ls] 0 none):=by rw[hH4];simp (disch:=first|omega|(simp only[new_n,put_n];omega)|(repeat first|rw[new_n]|rw[put_n])) only[get_new_same,get_new_old]
 have gd:H4.ext.get (h3.n+1)=some (.cells [KN sz] 0 none):=by rw[hH4];simp (disch:=first|omega|(simp only[new_n,put_n];omega)|(repeat first|rw[new_n]|rw[put_n])) only[get_new_same]
 rw[←hH4] at X4 ⊢
 clear hH4
 simp -dsimp (disch:=omega) only[wpS,wpT,Nat.reduceAdd]
 have X24:=X3.trans X4
 have E4:=E2.trans X24
 have hlen:(l.map rOf).length=l.length:=List.length_map ..
 refine range2 (p:=28) (nt:=47) rfl rfl (by decide) (fun r y hfn hnt hbd hy=>?_)
 let C:IH→Prop:=fun hh=>Ext h hh∧Keep h3 hh∧H4.n<hh.n∧hh.ext.get h3.n=some (.cells [ls] 0 none)∧hh.ext.get (h3.n+1)=some (.cells [KN sz] 0 none)∧hh.ext.get h.n=some (.cells [KN sz] 0 none)
 let O:Nat→IH→Prop:=fun j hh=>hh.ext.get (h.n+1)=some (.cells [.slice none 0 0] 0 none)∧hh.ext.get (h.n+1+1)=some (.cells [KI 0] 0 none)∧(∀q∈(bmeans (l.map rOf) sz).take j,QW q) ∧ ∃out,hh.ext.get h1.n=some (.cells [out] 0 none)∧Acc hh h.n 16 out (((bmeans (l.map rOf) sz).take j).map shOf).length (shL (((bmeans (l.map rOf) sz).take j).map shOf))
 let J:Nat→IH→Prop:=fun i hh=>C hh∧hh.ext.get H4.n=some (.loop r) ∧ ∃j,i=j*sz∧j≤l.length / sz∧O j hh
 let D:IH→Prop:=fun hh=>C hh∧(((hh.ext.get H4.n=some (.loop r)∨hh.ext.get H4.n=some (.loop (doneL r (.exit 0))))∧O (l.length / sz) hh)∨(hh.ext.get H4.n=some (.loop (doneL r .ret))∧hh.ext.get (h.n+1)=some (.cells [.slice none 0 0] 0 none)∧hh.ext.get (h.n+1+1)=some (.cells [KI 6] 0 none) ∧ ¬∀q∈bmeans (l.map rOf) sz,QW q))
 have hjsz : ∀j,j≤l.length / sz→j*sz≤l.length:=fun j hj=>Nat.le_trans (Nat.mul_le_mul_right _ hj) (Nat.div_mul_le_self _ _)
 have hend : ∀j,j≤l.length / sz→l.length<j*sz+sz→j=l.length / sz:=by
  intro j hj hlt
  apply Nat.le_antisymm hj
  have:l.length / sz<j+1:=by
   rw[Nat.div_lt_iff_lt_mul (by omega),Nat.add_mul,Nat.one_mul];exact hlt
  omega
 have tr : ∀(hx:IH) (r':ILoop) (obj:IObj),hx.ext.get H4.n=some (.loop r')→C hx→C (hx.put H4.n obj) ∧ ∀j',O j' hx→O j' (hx.put H4.n obj):=by
  rintro hx r' obj hg ⟨c1,c2,c3,c4,c5,c6⟩
  have z0 : ∀j,j≠H4.n→(hx.put H4.n obj).ext.get j=hx.ext.get j:=fun j hj=>get_put_old _ _ hj
  refine⟨⟨c1.put (by omega) _,c2.putAny (by rintro c e f hc;rw[hg] at hc;cases hc) _,c3,?_,?_,?_⟩,?_⟩
  ·rw[z0 _ (by omega)];exact c4
  ·rw[z0 _ (by omega)];exact c5
  ·rw[z0 _ (by omega)];exact c6
  ·rintro j' ⟨o1,o2,o3,out,o4,o5⟩
   refine⟨?_,?_,o3,out,?_,o5.putLoop hg _⟩
   ·rw[z0 _ (by omega)];exact o1
   ·rw[z0 _ (by omega)];exact o2
   ·rw[z0 _ (by omega)];exact o4
 have hC0 : ∀hh,C hh→ElSl PRat hh ls (l.map rOf):=fun hh c=>hls.keep kept_p c.2.1
 refine(WV.mono (chunk1_ok (b:=h3.n) (b2:=h3.n+1) (sz:=sz) (l:=l.map rOf) (s:=ls) hs1 (by omega) J D ?_ ?_ ?_ ?_) ?_)
 ·rintro i hh ⟨c,_⟩
  exact⟨c.2.2.2.1,c.2.2.2.2.1,hC0 hh c⟩
 ·refine⟨⟨E4.new _,(X4.new _).keep,by simp,?_,?_,?_⟩,get_new_same _ _ rfl,0,by omega,Nat.zero_le _,?_,?_,?_,.slice none 0 0,?_,?_⟩
  ·rw[get_new_old _ _ (by omega)];exact gc
  ·rw[get_new_old _ _ (by omega)];exact gd
  ·rw[get_new_old _ _ (by omega)];exact X24.kept (by omega) j0
  ·rw[get_new_old _ _ (by omega)];exact X24.kept (by omega) j1
  ·rw[get_new_old _ _ (by omega)];exact X24.kept (by omega) j2
  ·intro q hq;simp at hq
  ·rw[get_new_old _ _ (by omega)];exact X24.kept (by omega) g7
  ·exact Acc.nil _ _ (by omega)
 ·rintro i hh hi ⟨c,hr,j,rfl,hj,o⟩
  rw[hlen] at hi
  have:=hjsz j hj
  have hje:j=l.length / sz:=hend j hj (by omega)
  rw[hje] at o
  exact⟨c,.inl ⟨.inl hr,o⟩⟩
 ·rintro i hh w hi ⟨c,hr,j,rfl,hj,o⟩ hw
  rw[hlen] at hi hw
  refine hy w hh _ hr ?_
  simp -dsimp (disch:=omega) only[wpS,Nat.reduceEqDiff]
  refine⟨rfl,hr,?_⟩
  rw[hfn,hnt,hbd]
  obtain⟨cb,ob⟩:=tr hh r (.loop (busyL r)) hr c
  have ob:=ob j o
  have zl:(hh.put H4.n (.loop (busyL r))).ext.get H4.n=some (.loop (busyL r)):=get_put_same _ _ rfl
  have kb1:Keep hh (hh.put H4.n (.loop (busyL r))):=(Keep.refl _).putAny (by rintro c e f hc;rw[hr] at hc;cases hc) _
  obtain⟨hb,hhb⟩ : ∃hb,hb=hh.put H4.n (.loop (busyL r)):=⟨_,rfl⟩
  rw[←hhb] at cb ob zl kb1 ⊢
  clear hhb
  obtain⟨c1,c2,c3,c4,c5,zz6⟩:=id cb
  obtain⟨o1,o2,o3,out,o4,o5⟩:=id ob
  obtain⟨cs,hws,_,_⟩:=id hw
  have hwl:(((l.map rOf).drop (j*sz)).take (min sz (l.length - j*sz))).length=min sz (l.length - j*sz):=by simp<;>omega
  have hwlen:=fun(h':IH)=>hws.len (P:=Proofs.Try.prog) sl53 h'
  rw[hwl] at hwlen
  by_cases hfull:j*sz+sz≤l.length
  ·have hmin:min sz (l.length - j*sz)=sz:=by omega
   rw[hmin] at hwlen hw
   have hjn:j<l.length / sz:=by
    apply Classical.byContradiction;intro hn
    have:j=l.length / sz:=by omega
    have h5:=Nat.lt_div_mul_add (a:=l.length) (show 0<sz by omega)
    rw[←this] at h5;omega
   have hPn:((l.map rOf).drop (j*sz)).take sz ≠ []:=by
    intro h0
    rw[hmin] at hwl
    rw[h0] at hwl;simp at hwl;omega
   have hPB : ∀q∈((l.map rOf).drop (j*sz)).take sz,QB k q:=fun q hq=>hkk q (List.mem_of_mem_drop (List.mem_of_mem_take hq))
   have hPb:(((l.map rOf).drop (j*sz)).take sz).length*(k+1)+17<16000000:=by
    rw[hmin] at hwl
    rw[hwl]
    have:sz*(k+1)≤l.length*(k+1):=Nat.mul_le_mul_right _ hs2
    unfold mBits at hbb
    omega
   have cdec:decide ((sz:Int)<(sz:Int))=false:=decide_eq_false (by omega)
   simp -dsimp (disch:=omega) only[wpS,Nat.reduceEqDiff,ld3,hwlen hb,row_of zz6,cdec]
   refine call (mean_ok (hw.keep kept_p kb1) hPn hPB hPb) ?_
   rintro rm h6 ⟨X6,p6⟩
   have m6:=X6.n
   simp -dsimp (disch:=omega) only[wpS,Nat.reduceEqDiff]
   refine call (rtold_ok p6) ?_
   rintro _ h7 ⟨X7,rfl⟩
   have m7:=X7.n
   have X67:=X6.trans X7
   have hbm:qmean (((l.map rOf).drop (j*sz)).take sz)=bmean (l.map rOf) sz j:=rfl
   have hat:=bmeans_at (l:=l.map rOf) (sz:=sz) (j:=j) (by rw[hlen];exact hjn)
   rw[hbm]
   have kk7:Keep hh h7:=kb1.trans X67.keep
   have c7:C h7:=⟨c1.trans X67,c2.trans X67.keep,by omega,X67.kept (by omega) c4,X67.kept (by omega) c5,X67.kept (by omega) zz6⟩
   have zl7:=X67.kept c3 zl
   have o17:=X67.kept (by omega) o1
   have o27:=X67.kept (by omega) o2
   have o47:=X67.kept (by omega) o4
   by_cases hq:QW (bmean (l.map rOf) sz j)
   ·rw[if_pos hq]
    have eA:Ext h7 ((h7.new (.cells Z16 0 none)).put h7.n (.cells (shC (wideN (bmean (l.map rOf) sz j).num) (wideN ((bmean (l.map rOf) sz j).den:Int))) 0 none)):=((Ext.refl _).new _).put (Nat.le_refl _) _
    have hcnt:(((bmeans (l.map rOf) sz).take j).map shOf).length≤200:=by
     rw[List.length_map,List.length_take]
     have:=Nat.div_le_self l.length sz
     omega
    obtain⟨out',h8,hap,hA8,hG8,hE8⟩:=(o5.ext (X67.trans eA)).appN (P:=Proofs.Try.prog) (t:=28) ap28 (m:=1) (new:=shC (wideN (bmean (l.map rOf) sz j).num) (wideN ((bmean (l.map rOf) sz j).den:Int))) (by omega) (by rw[shC_len]) (shC_all _ _) (by omega) (by simp only[put_n,new_n];omega) (c1.trans (X67.trans eA)) (Nat.le_refl _)
    have n8:=hG8.n
    simp only[put_n,new_n] at n8
    have cellsInj : ∀{c:List Value} (c':List Value) (e:Nat) (f:Option Nat),IObj.cells c 0 none=.cells c' e f→e=0:=by rintro c c' e f ⟨⟩;rfl
    have w7:=hG8.var (by simp only[put_n,new_n];omega) ((eA.kept (by omega) o47))
    have w1:=hG8.var (by simp only[put_n,new_n];omega) ((eA.kept (by omega) o17))
    have w2:=hG8.var (by simp only[put_n,new_n];omega) ((eA.kept (by omega) o27))
    have w4:=hG8.var (by simp only[put_n,new_n];omega) ((eA.kept (by omega) c7.2.2.2.1))
    have w5:=hG8.var (by simp only[put_n,new_n];omega) ((eA.kept (by omega) c7.2.2.2.2.1))
    have w6:=hG8.var (by simp only[put_n,new_n];omega) ((eA.kept (by omega) c7.2.2.2.2.2))
    have wl:=hG8.box (by simp only[put_n,new_n];omega) ((eA.kept c7.2.2.1 zl7)) (by rintro c e f ⟨⟩)
    have eT:((bmeans (l.map rOf) sz).take (j+1)).map shOf=((bmeans (l.map rOf) sz).take j).map shOf ++ [shOf (bmean (l.map rOf) sz j)]:=by rw[take_snoc hat,List.map_append];rfl
    have hA8':Acc h8 h.n 16 out' (((bmeans (l.map rOf) sz).take (j+1)).map shOf).length (shL (((bmeans (l.map rOf) sz).take (j+1)).map shOf)):=by
     rw[eT,shL_snoc,List.length_append]
     exact hA8
    have hap':append Proofs.Try.prog (((h7.new (.cells Z16 0 none)).put h7.n (.cells (shC (wideN (bmean (l.map rOf) sz j).num) (wideN ((bmean (l.map rOf) sz j).den:Int))) 0 none)).new (.cells (shC (wideN (bmean (l.map rOf) sz j).num) (wideN ((bmean (l.map rOf) sz j).den:Int))) 16 none)) 28 out (.slice (some ⟨2*(h7.n+1),0,none⟩) 1 3)=some (out',h8):=hap
    simp -dsimp (disch:=omega) only[wpS,wpT,Nat.reduceEqDiff,Nat.reduceLeDiff,Nat.reduceAdd,st28,zc27,st27,ld28,ld27,bs28,ba28_28,shV_cells,shC_len,shC_all,sh_sp3,sh_take,row_of o47,hap',w7,hA8.sl.cells,hA8.sl.cok]
    refine⟨by simp (disch:=first|omega|(simp only[new_n,put_n];omega)|(repeat first|rw[new_n]|rw[put_n])) only[get_put_old];exact wl,.inl ⟨rfl,?_⟩⟩
    have k8:Keep h3 h8:=(c7.2.1.trans eA.keep).trans hG8.keep
    have k81:Keep h3 (h8.put h1.n (.cells [out'] 0 none)):=k8.put w7 _
    show J (j*sz+sz) _
    refine⟨⟨(hE8.put (by omega) _).put (by omega) _,k81.putAny (by rintro c e f hc;rw[get_put_old _ _ (by omega),wl] at hc;cases hc) _,by simp only[put_n];omega,by simp (disch:=first|omega|(simp only[new_n,put_n];omega)|(repeat first|rw[new_n]|rw[put_n])) only[get_put_old];exact w4,by simp (disch:=first|omega|(simp only[new_n,put_n];omega)|(repeat first|rw[new_n]|rw[put_n])) only[get_put_old];exact w5,by simp (disch:=first|omega|(simp only[new_n,put_n];omega)|(repeat first|rw[new_n]|rw[put_n])) only[get_put_old];exact w6⟩,get_put_same _ _ rfl,j+1,by rw[Nat.add_mul,Nat.one_mul],by omega,by simp (disch:=first|omega|(simp only[new_n,put_n];omega)|(repeat first|rw[new_n]|rw[put_n])) only[get_put_old];exact w1,by simp (disch:=first|omega|(simp only[new_n,put_n];omega)|(repeat first|rw[new_n]|rw[put_n])) only[get_put_old];exact w2,?_,out',by simp (disch:=first|omega|(simp only[new_n,put_n];omega)|(repeat first|rw[new_n]|rw[put_n])) only[get_put_same,get_put_old],(hA8'.put w7 _).putLoop (by rw[get_put_old _ _ (by omega)];exact wl) _⟩
    rw[take_snoc hat]
    intro q hqm
    rcases List.mem_append.1 hqm with hqm|hqm
    ·exact o3 q hqm
    ·simp at hqm;subst hqm;exact hq
   ·rw[if_neg hq]
    simp -dsimp (disch:=omega) only[wpS,wpT,Nat.reduceEqDiff,Nat.reduceLeDiff,Nat.reduceAdd,st28,st32,zc27,st27,shV_cells,shC_len,shC_all,sh_sp3,o17,o27]
    obtain⟨d1,d2,d3,d4,d5,d6⟩:=c7
    refine⟨by simp (disch:=first|omega|(simp only[new_n,put_n];omega)|(repeat first|rw[new_n]|rw[put_n])) only[get_new_old,get_put_old];exact zl7,.inr ⟨rfl,?_⟩⟩
    have e9:Ext h (((h7.new (.cells Z16 0 none)).put h7.n (.cells (shC 0 0) 0 none))):=(d1.new _).put (by omega) _
    have k9:Keep h3 (((h7.new (.cells Z16 0 none)).put h7.n (.cells (shC 0 0) 0 none))):=d2.trans (((Ext.refl h7).new _).put (Nat.le_refl _) _).keep
    have k91:=k9.put (cs:=[.slice none 0 0]) (f:=none) (k:=h.n+1) (by simp (disch:=first|omega|(simp only[new_n,put_n];omega)|(repeat first|rw[new_n]|rw[put_n])) only[get_new_old,get_put_old];exact o17) (.cells [.slice none 0 0] 0 none)
    have k92:=k91.put (cs:=[KI 0]) (f:=none) (k:=h.n+1+1) (by simp (disch:=first|omega|(simp only[new_n,put_n];omega)|(repeat first|rw[new_n]|rw[put_n])) only[get_new_old,get_put_old];exact o27) (.cells [KI 6] 0 none)
    show D _
    refine⟨⟨((e9.put (by omega) _).put (by omega) _).put (by omega) _,k92.putAny (by rintro c e f hc;rw[get_put_old _ _ (by omega),get_put_old _ _ (by omega),get_put_old _ _ (by omega),get_new_old _ _ (by omega),zl7] at hc;cases hc) _,by simp only[put_n,new_n];omega,by simp (disch:=first|omega|(simp only[new_n,put_n];omega)|(repeat first|rw[new_n]|rw[put_n])) only[get_new_old,get_put_old];exact d4,by simp (disch:=first|omega|(simp only[new_n,put_n];omega)|(repeat first|rw[new_n]|rw[put_n])) only[get_new_old,get_put_old];exact d5,by simp (disch:=first|omega|(simp only[new_n,put_n];omega)|(repeat first|rw[new_n]|rw[put_n])) only[get_new_old,get_put_old];exact d6⟩,.inr ⟨get_put_same _ _ rfl,by simp (disch:=first|omega|(simp only[new_n,put_n];omega)|(repeat first|rw[new_n]|rw[put_n])) only[get_put_same,get_put_old],by simp (disch:=first|omega|(simp only[new_n,put_n];omega)|(repeat first|rw[new_n]|rw[put_n])) only[get_put_same,get_put_old],fun hall=>hq (hall _ (List.mem_of_getElem? hat))⟩⟩
  ·have hmin:min sz (l.length - j*sz)=l.length - j*sz:=by omega
   rw[hmin] at hwlen
   have cdec:decide (((l.length - j*sz:Nat):Int)<(sz:Int))=true:=decide_eq_true (by omega)
   simp -dsimp (disch:=omega) only[wpS,Nat.reduceEqDiff,ld3,hwlen hb,row_of zz6,cdec]
   have hje:j=l.length / sz:=hend j hj (by omega)
   obtain⟨t1,t2⟩:=tr hb (busyL r) (.loop (doneL r (.exit 0))) zl cb
   refine⟨zl,.inr ⟨rfl,t1,.inl ⟨.inr (get_put_same _ _ rfl),?_⟩⟩⟩
   rw[←hje]
   exact t2 j ob
 ·rintro _ hh ⟨c,hd⟩
  have okEnd : ∀r',hh.ext.get H4.n=some (.loop r')→O (l.length / sz) hh → ∀fr:Fr,fget fr 4=some (ptr (2*(h.n+1)) 0)→fget fr 5=some (ptr (2*(h.n+1+1)) 0)→fget fr 7=some (ptr (2*h1.n) 0)→True:=fun _ _ _ _ _ _ _=>trivial
  rcases hd with⟨hr,o⟩|⟨hr,q1,q2,q3⟩
  ·have hbe:batErr l (sz:Int)=0:=by
    obtain⟨_,_,o3,_⟩:=o
    rw[batErr,if_pos he,if_pos ⟨by omega,by omega⟩,Int.toNat_natCast,if_pos]
    intro q hq
    refine o3 q ?_
    rw[List.take_of_length_le (by rw[bmeans_len,hlen];omega)]
    exact hq
   have fin : ∀r',hh.ext.get H4.n=some (.loop r') → ∃out,(hh.put H4.n .dead).ext.get h1.n=some (.cells [out] 0 none)∧(hh.put H4.n .dead).ext.get (h.n+1)=some (.cells [.slice none 0 0] 0 none)∧(hh.put H4.n .dead).ext.get (h.n+1+1)=some (.cells [KI 0] 0 none)∧Ext h (hh.put H4.n .dead)∧ShSl (hh.put H4.n .dead) out ((bmeans (l.map rOf) sz).map shOf)∧H4.n<(hh.put H4.n .dead).n:=by
    intro r' hg
    obtain⟨t1,t2⟩:=tr hh r' .dead hg c
    obtain⟨p1,p2,p3,out,p4,p5⟩:=t2 _ o
    have et:(bmeans (l.map rOf) sz).take (l.length / sz)=bmeans (l.map rOf) sz:=List.take_of_length_le (by rw[bmeans_len,hlen];omega)
    rw[et] at p3 p5
    refine⟨out,p4,p1,p2,t1.1,⟨p5.sl,?_,?_⟩,t1.2.2.1⟩
    ·rw[List.length_map,bmeans_len,hlen]
     have:=Nat.div_le_self l.length sz
     omega
    ·intro p hp
     obtain⟨q,hq,rfl⟩:=List.mem_map.1 hp
     exact shOf_lt (p3 q hq)
   rcases hr with hr|hr
   ·refine .inl ⟨hr,?_⟩
    obtain⟨out,f1,f2,f3,f4,f5,f6⟩:=fin _ hr
    obtain⟨K0,hK0⟩ : ∃K0,K0=hh.put H4.n .dead:=⟨_,rfl⟩
    rw[←hK0] at f1 f2 f3 f4 f5 f6 ⊢
    clear hK0
    simp -dsimp (disch:=omega) only[wpS,wpT,Nat.reduceEqDiff,Nat.reduceLeDiff,st28,st32,ld28,ld32,row_of f1,f2,f3,f5.1.cells,f5.1.cok]
    refine⟨(f4.put (by omega) _).put (by omega) _,out,by rw[hbe],?_⟩
    rw[if_pos hbe]
    exact f5.keep (((Keep.refl K0).put f2 _).put (cs:=[KI 0]) (f:=none) (by simp (disch:=first|omega|(simp only[new_n,put_n];omega)|(repeat first|rw[new_n]|rw[put_n])) only[get_put_old];exact f3) _)
   ·refine .inr (.inl ⟨0,hr,?_⟩)
    obtain⟨out,f1,f2,f3,f4,f5,f6⟩:=fin _ hr
    obtain⟨K0,hK0⟩ : ∃K0,K0=hh.put H4.n .dead:=⟨_,rfl⟩
    rw[←hK0] at f1 f2 f3 f4 f5 f6 ⊢
    clear hK0
    simp -dsimp (disch:=omega) only[wpS,wpT,Nat.reduceEqDiff,Nat.reduceLeDiff,st28,st32,ld28,ld32,row_of f1,f2,f3,f5.1.cells,f5.1.cok]
    refine⟨(f4.put (by omega) _).put (by omega) _,out,by rw[hbe],?_⟩
    rw[if_pos hbe]
    exact f5.keep (((Keep.refl K0).put f2 _).put (cs:=[KI 0]) (f:=none) (by simp (disch:=first|omega|(simp only[new_n,put_n];omega)|(repeat first|rw[new_n]|rw[put_n])) only[get_put_old];exact f3) _)
  ·have hbe:batErr l (sz:Int)=6:=by
    rw[batErr,if_pos he,if_pos ⟨by omega,by omega⟩,Int.toNat_natCast,if_neg q3]
   refine .inr (.inr ⟨hr,?_⟩)
   obtain⟨t1,_⟩:=tr hh _ .dead hr c
   have f1:(hh.put H4.n .dead).ext.get (h.n+1)=some (.cells [.slice none 0 0] 0 none):=by rw[get_put_old _ _ (by omega)];exact q1
   have f2:(hh.put H4.n .dead).ext.get (h.n+1+1)=some (.cells [KI 6] 0 none):=by rw[get_put_old _ _ (by omega)];exact q2
   obtain⟨K0,hK0⟩ : ∃K0,K0=hh.put H4.n .dead:=⟨_,rfl⟩
   rw[←hK0] at f1 f2 t1 ⊢
   clear hK0
   simp -dsimp (disch:=omega) only[wpS,Nat.reduceEqDiff,ld28,ld32,row_of f1,row_of f2]
   exact errEnd 6 (by omega) hbe _ t1.1
end Go.Id

/-! Contracts: the reference's fractions: lowest terms. -/
namespace Go.Id
open Go
def RPair (h:IH) (v:Value) (n d:Int):Prop:=∃a s b t,v=.agg #[a,s,b,t]∧LongIs h (.agg #[a,s]) n∧LongIs h (.agg #[b,t]) d
theorem RPair.keep {h h':IH} {v:Value} {n d:Int} (p:RPair h v n d) (e:Keep h h'):RPair h' v n d:=let ⟨a,s,b,t,h1,h2,h3⟩:=p;⟨a,s,b,t,h1,h2.keep e,h3.keep e⟩
def RRat (h:IH) (v:Value) (q:Rat):Prop:=RPair h v q.num q.den
theorem RRat.keep {h h':IH} {v:Value} {q:Rat} (p:RRat h v q) (e:Keep h h'):RRat h' v q:=RPair.keep p e
end Go.Id

/-! Contracts: the reference's fractions: sums, differences, products, quotients, order. -/
namespace Go.Id
open Go
end Go.Id

/-! Contracts: the reference's shares: in, out, made, valid; fractions of integers. -/
namespace Go.Id
open Go
end Go.Id

/-! Contracts: the laws' own helpers: shares of integers, lists of them. -/
namespace Go.Id
open Go
theorem lawq_ok {h:IH} (n d:Int) (hn:In64 n) (hd:In64 d) (d0:d≠0):WV Proofs.Try.prog (.func (.func 5) #[] #[]) [KI n,KI d] h fun r h'=>Ext h h'∧r=shareV (Rat.divInt n d):=by
 refine enter (nt:=14) (rs:=[.cell 4 27]) Proofs.Try.func5 rfl rfl rfl (by simp) ?_
 simp -dsimp (disch:=omega) only[wpS,Nat.reduceEqDiff,Nat.reduceAdd,zc27]
 have E1:Ext h (h.new (.cells Z16 0 none)):=(Ext.refl h).new _
 have g1:(h.new (.cells Z16 0 none)).ext.get h.n=some (.cells Z16 0 none):=by simp (disch:=first|omega|(simp only[new_n,put_n];omega)|(repeat first|rw[new_n]|rw[put_n])) only[get_new_same]
 refine call (shof_ok n d hn hd d0) ?_
 rintro _ h1 ⟨X1,rfl⟩
 have m1:=X1.n
 simp only[new_n] at m1
 have k1:=X1.kept (by simp) g1
 simp -dsimp (disch:=omega) only[wpS,wpT,Nat.reduceEqDiff,Nat.reduceLeDiff,Nat.reduceAdd,zc27,st27,ld27,k1,shV_cells,shC_len,shC_all,sh_sp3,sh_take]
 exact⟨(((E1.trans X1).new _).put (by omega) _).put (by omega) _,rfl⟩
def shI (n:Int):Nat×Nat:=(wideN n,wideN 1)
theorem shI_lt {n:Int} (hn:In64 n):(shI n).1<W8∧(shI n).2<W8:=⟨wideN_lt (inW64 hn),wideN_lt (z:=1) (inW64 ⟨by omega,by omega⟩)⟩
set_option maxHeartbeats 2000000 in
theorem lawl_ok {h:IH} {v:Value} {xs:List Int} (hv:SlOf h 1 v xs.length (xs.map KI)) (hx : ∀x∈xs,In64 x) (hl:xs.length≤1000):WV Proofs.Try.prog (.func (.func 10) #[] #[]) [v] h fun r h'=>Ext h h'∧ShSl h' r (xs.map shI):=by
 refine enter (nt:=19) (rs:=[.tmp 2]) Proofs.Try.func10 rfl rfl rfl (by simp) ?_
 simp -dsimp (disch:=omega) only[wpS,Nat.reduceEqDiff,hv.len sl60]
 refine loop (fun m fr hh => ∃(i:Nat) (out:Value),i+m=xs.length∧Ext h hh∧Acc hh h.n 16 out ((xs.take i).map shI).length (shL ((xs.take i).map shI))∧fget fr 3=some out∧fget fr 6=some v∧fget fr 7=some (KN xs.length)∧fget fr 8=some (KN i)) xs.length
  ⟨0,.slice none 0 0,by omega,Ext.refl _,Acc.nil _ _ (by omega),by simp,by simp,by simp,by simp⟩ ?_
 rintro m fr hh ⟨i,out,him,hE,hA,f3,f6,f7,f8⟩
 have hnn:=hE.n
 simp -dsimp (disch:=omega) only[wpS,f7,f8]
 refine bq_intro ?_ ?_<;>intro hc<;>simp only[decide_eq_true_eq,decide_eq_false_iff_not] at hc
 ·have hi:i<xs.length:=by omega
  obtain⟨x,hxi⟩ : ∃x,xs[i]?=some x:=⟨_,List.getElem?_eq_getElem hi⟩
  have hxm:=List.mem_of_getElem? hxi
  have hld:load Proofs.Try.prog hh 3 (elemAddr v i)=some (KI x):=by
   rw[hv.ld hE.keep (P:=Proofs.Try.prog) (t:=3) (c:=i) (by simpa using hi) ag3,List.getElem?_map,hxi];rfl
  simp -dsimp (disch:=omega) only[wpS,wpT,Nat.reduceEqDiff,f3,f6,f8,hv.idx es60 hi,hld]
  refine call (lawq_ok x 1 (hx x hxm) ⟨by omega,by omega⟩ (by omega)) ?_
  rintro _ h1 ⟨X1,rfl⟩
  have m1:=X1.n
  have eS:shareV (Rat.divInt x 1)=shV (wideN x) (wideN 1):=by
   have:Rat.divInt x 1=(x:Rat):=Rat.num_divInt_den (x:Rat)
   rw[this];rfl
  rw[eS]
  obtain⟨out',h8,hap,hA8,hG8,hE8⟩:=(hA.ext X1).appN (P:=Proofs.Try.prog) (t:=28) ap28 (m:=1) (new:=shC (wideN x) (wideN 1)) (by omega) (by rw[shC_len]) (shC_all _ _) (by rw[List.length_map,List.length_take];omega) (by omega) (hE.trans X1) (Nat.le_refl _)
  have eT:(xs.take (i+1)).map shI=(xs.take i).map shI ++ [shI x]:=by rw[take_snoc hxi,List.map_append];rfl
  have hA8':Acc h8 h.n 16 out' ((xs.take (i+1)).map shI).length (shL ((xs.take (i+1)).map shI)):=by
   rw[eT,shL_snoc,List.length_append]
   exact hA8
  have hap':append Proofs.Try.prog (h1.new (.cells (shC (wideN x) (wideN 1)) 16 none)) 28 out (.slice (some ⟨2*h1.n,0,none⟩) 1 3)=some (out',h8):=hap
  simp -dsimp (disch:=omega) only[wpS,wpT,Nat.reduceEqDiff,Nat.reduceLeDiff,Nat.reduceAdd,bs28,ba28_28,f8,shV_cells,shC_len,sh_sp3,hap']
  exact⟨m - 1,by omega,i+1,out',by omega,hE8,hA8',by simp,by simp[f6],by simp[f7],by simp⟩
 ·obtain rfl:i=xs.length:=by omega
  rw[List.take_length] at hA
  simp -dsimp (disch:=omega) only[wpS,wpT,Nat.reduceEqDiff,f3]
  refine⟨hE,hA.sl,by rw[List.length_map];omega,?_⟩
  intro p hp
  obtain⟨x,hxm,rfl⟩:=List.mem_map.1 hp
  exact shI_lt (hx x hxm)
end Go.Id

/-! Shares compared. -/
namespace Go.Id
open Go
section
variable {P:Program}
theorem pr_program:pureRun P (program)=some P:=rfl
theorem pr_part_agg {e:TypeId} {n:Nat} (hA:isAggT P e=some true) (hs:sizeT P e=some n) (cs:Array Value) (off:Nat):pureRun P (part e cs off)=some (.agg (cs.extract off (off+n))):=by
 unfold part
 have h1:pureRun P (isAgg e)=some true:=by
  unfold isAgg
  simp only[isAggT,Option.map_eq_some_iff] at hA
  obtain⟨d,hd,hA⟩:=hA
  rw[pr_bind (pr_underlying hd)]
  cases d<;>first|rfl|(simp at hA)
 rw[pr_bind h1]
 simp only[if_true]
 rw[pr_bind (pr_sizeOf hs)]
 rfl
theorem binop_eql_gen {t:TypeId} {x y:Array Value} {b:Bool} (hg:P.eqGuardType P.depth t=false) (hx:plain (.agg x)=true) (hy:plain (.agg y)=true) (h:pureRun P (Op.equal t (.agg x) (.agg y))=some b) (ox oy:Operand):binop P .eql t ox oy (.agg x) (.agg y)=some (.bool b):=by
 refine binop_of P t ox oy hx hy rfl ?_
 have h1:pureRun P (eqGuard .eql t ox oy (.agg x) (.agg y))=some ():=by
  show pureRun P (if (!P.eqGuardType P.depth t)=true then _ else _)=_
  rw[hg];rfl
 rw[pr_bind h1]
 show pureRun P (Op.equal t _ _ >>= fun r=>pure (Value.bool r))=_
 rw[pr_bind h];rfl
theorem binop_neq_gen {t:TypeId} {x y:Array Value} {b:Bool} (hg:P.eqGuardType P.depth t=false) (hx:plain (.agg x)=true) (hy:plain (.agg y)=true) (h:pureRun P (Op.equal t (.agg x) (.agg y))=some b) (ox oy:Operand):binop P .neq t ox oy (.agg x) (.agg y)=some (.bool (!b)):=by
 refine binop_of P t ox oy hx hy rfl ?_
 have h1:pureRun P (eqGuard .neq t ox oy (.agg x) (.agg y))=some ():=by
  show pureRun P (if (!P.eqGuardType P.depth t)=true then _ else _)=_
  rw[hg];rfl
 rw[pr_bind h1]
 show pureRun P (Op.equal t _ _ >>= fun r=>pure (Value.bool !r))=_
 rw[pr_bind h];rfl
end
theorem sh_ext1 (n d:Nat):((shC n d).toArray).extract 0 8=(wdC n).toArray:=by
 simp only[List.extract_toArray,List.extract_eq_take_drop]
 rw[show(8 - 0)=8 from rfl,sh_take1]
theorem sh_ext2 (n d:Nat):((shC n d).toArray).extract 8 16=(wdC d).toArray:=by
 simp only[List.extract_toArray,List.extract_eq_take_drop]
 rw[show(16 - 8)=8 from rfl,sh_take2]
theorem wd_equalIn {n m:Nat} (hn:n<W8) (hm:m<W8) (k:Nat):pureRun Proofs.Try.prog (Op.equalIn (k+2) 25 (.agg (wdC n).toArray) (.agg (wdC m).toArray))=some (decide (n=m)):=by
 rw[wdC_map,wdC_map,pr_equal_arr u25 u23 sz23 _ _ _ (by simp) (by simp),wd_dec hn hm]
theorem sh_equalIn {n d n' d':Nat} (h1:n<W8) (h2:d<W8) (h3:n'<W8) (h4:d'<W8) (k:Nat):pureRun Proofs.Try.prog (Op.equalIn (k+3) 27 (.agg (shC n d).toArray) (.agg (shC n' d').toArray))=some (decide (n=n'∧d=d')):=by
 unfold Op.equalIn
 rw[pr_bind (pr_underlying (show Program.underlying Proofs.Try.prog 27=some (.struct { toList:=[{ name := "N",type:=25,offset:=0,embedded:=false,tag := "",pkgPath := "",byteOffset:=0 },{ name := "D",type:=25,offset:=8,embedded:=false,tag := "",pkgPath := "",byteOffset:=64 }] }) by kernel_rfl))]
 simp only
 rw[pr_bind pr_program,show Program.stoodInHeld Proofs.Try.prog 27=false by kernel_rfl]
 have seq : ∀{α β:Type} (s:Sem α) (f:α→Sem β),pureRun Proofs.Try.prog (s >>= f)=(pureRun Proofs.Try.prog s).bind fun a=>pureRun Proofs.Try.prog (f a):=fun s f=>pureRun_seq _ f s
 have p1:=fun(n d:Nat)=>pr_part_agg (P:=Proofs.Try.prog) ag25 sz25 (shC n d).toArray 0
 have p2:=fun(n d:Nat)=>pr_part_agg (P:=Proofs.Try.prog) ag25 sz25 (shC n d).toArray 8
 have n1:("N" ≠ "_")=True:=by simp
 have n2:("D" ≠ "_")=True:=by simp
 simp only[Bool.false_eq_true,if_false,←Array.forIn_toList,List.forIn_cons,List.forIn_nil,seq,n1,n2,if_true,p1,Option.bind_some,Nat.zero_add,sh_ext1,wd_equalIn h1 h3]
 by_cases e1:n=n'
 ·simp only[decide_eq_true e1,Bool.not_true,Bool.false_eq_true,if_false,pr_pure,Option.bind_some,seq,p2,show(8+8:Nat)=16 from rfl,sh_ext2,wd_equalIn h2 h4]
  by_cases e2:d=d'
  ·simp only[decide_eq_true e2,Bool.not_true,Bool.false_eq_true,if_false,pr_pure,Option.bind_some]
   rw[decide_eq_true (And.intro e1 e2)]
  ·simp only[decide_eq_false e2,Bool.not_false,if_true,pr_pure,Option.bind_some]
   rw[decide_eq_false (fun h=>e2 h.2)]
 ·simp only[decide_eq_false e1,Bool.not_false,if_true,pr_pure,Option.bind_some]
  rw[decide_eq_false (fun h=>e1 h.1)]
theorem sh_plain (n d:Nat):plain (.agg (shC n d).toArray)=true:=by
 simp only[plain,shC,wdC]
 simp[scal]
theorem sh_eql {n d n' d':Nat} (h1:n<W8) (h2:d<W8) (h3:n'<W8) (h4:d'<W8) (ox oy:Operand):binop Proofs.Try.prog .eql 27 ox oy (.agg (shC n d).toArray) (.agg (shC n' d').toArray)=some (.bool (decide (n=n'∧d=d'))):=by
 exact binop_eql_gen (by kernel_rfl) (sh_plain _ _) (sh_plain _ _) (sh_equalIn h1 h2 h3 h4 9997) ox oy
theorem sh_neq {n d n' d':Nat} (h1:n<W8) (h2:d<W8) (h3:n'<W8) (h4:d'<W8) (ox oy:Operand):binop Proofs.Try.prog .neq 27 ox oy (.agg (shC n d).toArray) (.agg (shC n' d').toArray)=some (.bool (!decide (n=n'∧d=d'))):=by
 exact binop_neq_gen (by kernel_rfl) (sh_plain _ _) (sh_plain _ _) (sh_equalIn h1 h2 h3 h4 9997) ox oy
end Go.Id

/-! Contracts: the laws' own helpers: is, fails, is2. -/
namespace Go.Id
open Go
theorem fails_ok {h:IH} (e:Int):WV Proofs.Try.prog (.func (.func 6) #[] #[]) [KI e] h fun r h'=>r=.func (.func 19) #[] #[ptr (2*h.n) 0]∧h'=h.new (.cells [KI e] 0 none):=by
 refine enter (nt:=4) (rs:=[.tmp 2]) Proofs.Try.func6 rfl rfl rfl (by simp) ?_
 simp -dsimp (disch:=omega) only[wpS,wpT,Nat.reduceEqDiff]
theorem is_ok {h:IH} (a b:Int):WV Proofs.Try.prog (.func (.func 8) #[] #[]) [KI a,KI b] h fun r h'=>r=.func (.func 24) #[] #[ptr (2*h.n) 0,ptr (2*(h.n+1)) 0]∧h'=(h.new (.cells [KI a] 0 none)).new (.cells [KI b] 0 none):=by
 refine enter (nt:=6) (rs:=[.tmp 4]) Proofs.Try.func8 rfl rfl rfl (by simp) ?_
 simp -dsimp (disch:=omega) only[wpS,wpT,Nat.reduceEqDiff,Nat.reduceAdd]
theorem fails1_ok {h:IH} {n d b:Nat} {e e':Int} (h1:n<W8) (h2:d<W8) (hb:b<h.n) (g:h.ext.get b=some (.cells [KI e'] 0 none)) :
  WV Proofs.Try.prog (.func (.func 19) #[] #[ptr (2*b) 0]) [shV n d,KI e] h fun r h'=>Ext h h'∧r=.bool (decide ((n=0∧d=0)∧e=e')):=by
 have hz:(.agg (shC 0 0).toArray:Value)=.agg #[.int .u64 0,.int .u64 0,.int .u64 0,.int .u64 0,.int .u64 0,.int .u64 0,.int .u64 0,.int .u64 0,.int .u64 0,.int .u64 0,.int .u64 0,.int .u64 0,.int .u64 0,.int .u64 0,.int .u64 0,.int .u64 0]:=by kernel_rfl
 have hne : ∀ox oy,binop Proofs.Try.prog .eql 27 ox oy (.agg (shC n d).toArray) (.agg #[.int .u64 0,.int .u64 0,.int .u64 0,.int .u64 0,.int .u64 0,.int .u64 0,.int .u64 0,.int .u64 0,.int .u64 0,.int .u64 0,.int .u64 0,.int .u64 0,.int .u64 0,.int .u64 0,.int .u64 0,.int .u64 0])=some (.bool (decide (n=0∧d=0))):=fun ox oy=>by
  rw[←hz]
  exact sh_eql h1 h2 (by decide +kernel) (by decide +kernel) ox oy
 have E1:Ext h (h.new (.cells (shC n d) 0 none)):=(Ext.refl h).new _
 refine enter (nt:=14) (rs:=[.tmp 5]) Proofs.Try.func19 rfl rfl rfl (by simp) ?_
 have k:=E1.kept hb g
 by_cases hd:n=0∧d=0
 ·rw[decide_eq_true hd] at hne
  by_cases he:e=e'
  ·have c:(e == e')=true:=by simpa using he
   simp -dsimp (disch:=omega) only[wpS,wpT,Nat.reduceEqDiff,Nat.reduceLeDiff,Nat.reduceAdd,ld27,bv27,ld32,shV_cells,shC_len,sh_take,row_of k,hne,c]
   exact⟨E1,by simp[hd,he]⟩
  ·have c:(e == e')=false:=by simpa using he
   simp -dsimp (disch:=omega) only[wpS,wpT,Nat.reduceEqDiff,Nat.reduceLeDiff,Nat.reduceAdd,ld27,bv27,ld32,shV_cells,shC_len,sh_take,row_of k,hne,c]
   exact⟨E1,by simp[he]⟩
 ·rw[decide_eq_false hd] at hne
  simp -dsimp (disch:=omega) only[wpS,wpT,Nat.reduceEqDiff,Nat.reduceLeDiff,Nat.reduceAdd,ld27,bv27,shV_cells,shC_len,sh_take,hne]
  exact⟨E1,by simp[hd]⟩
def shq (q:Rat):Nat×Nat:=(wideN q.num,wideN q.den)
theorem shq_lt {q:Rat} (h:QW q):(shq q).1<W8∧(shq q).2<W8:=⟨wideN_lt h.1,wideN_lt h.2⟩
theorem shareV_shq (q:Rat):shareV q=shV (shq q).1 (shq q).2:=rfl
set_option maxHeartbeats 1000000 in
theorem is1_ok {h:IH} {n d b b2:Nat} {e a a2:Int} (h1:n<W8) (h2:d<W8) (ha:In64 a) (ha2:In64 a2) (a0:a2≠0) (hb:b<h.n) (g:h.ext.get b=some (.cells [KI a] 0 none)) (hb2:b2<h.n) (g2:h.ext.get b2=some (.cells [KI a2] 0 none)) :
  WV Proofs.Try.prog (.func (.func 24) #[] #[ptr (2*b) 0,ptr (2*b2) 0]) [shV n d,KI e] h fun r h'=>Ext h h'∧r=.bool (decide ((n=(shq (Rat.divInt a a2)).1∧d=(shq (Rat.divInt a a2)).2)∧e=0)):=by
 obtain⟨h3,h4⟩:=shq_lt (qw_div ha ha2 a0)
 have hs:=shareV_shq (Rat.divInt a a2)
 generalize shq (Rat.divInt a a2)=s at h3 h4 hs ⊢
 obtain⟨n',d'⟩:=s
 simp only at h3 h4 hs ⊢
 have hne : ∀ox oy,binop Proofs.Try.prog .eql 27 ox oy (.agg (shC n d).toArray) (shV n' d')=some (.bool (decide (n=n'∧d=d'))):=fun ox oy=>sh_eql h1 h2 h3 h4 ox oy
 obtain⟨H0,hH0⟩ : ∃H,H=h.new (.cells (shC n d) 0 none):=⟨_,rfl⟩
 have E1:Ext h H0:=by rw[hH0];exact(Ext.refl h).new _
 have g0:H0.ext.get h.n=some (.cells (shC n d) 0 none):=by rw[hH0];simp (disch:=first|omega|(simp only[new_n,put_n];omega)|(repeat first|rw[new_n]|rw[put_n])) only[get_new_same]
 have n0:H0.n=h.n+1:=by rw[hH0];simp
 have k:=E1.kept hb g
 have k2:=E1.kept hb2 g2
 have X0:=Ext.refl H0
 have L0:load Proofs.Try.prog H0 27 (ptr (2*h.n) 0)=some (.agg (shC n d).toArray):=by
  have r:=row_of g0
  simp -dsimp (disch:=omega) only[wpS,Nat.reduceLeDiff,ld27,r,shC_len,sh_take]
 refine enter (nt:=16) (rs:=[.tmp 6]) Proofs.Try.func24 rfl rfl rfl (by simp) ?_
 simp -dsimp (disch:=omega) only[wpS,Nat.reduceEqDiff,Nat.reduceAdd,shV_cells]
 rw[←hH0]
 clear hH0
 refine drawn [(0,[10])] (by kernel_rfl) (by kernel_rfl) rfl ?_
 simp -dsimp (disch:=omega) only[wpS,Nat.reduceEqDiff,Nat.reduceLeDiff,ld27,ld3,row_of g0,row_of k,row_of k2,shC_len,sh_take]
 refine call (lawq_ok a a2 ha ha2 a0) ?_
 rintro _ h9 ⟨X9,rfl⟩
 rw[hs]
 by_cases hd:n=n'∧d=d'
 ·rw[decide_eq_true hd] at hne
  simp -dsimp (disch:=omega) only[wpS,wpT,Nat.reduceEqDiff,hne]
  refine⟨by repeat' first|refine wpSteady_c2 ?_ ?_|refine wpSteady_t2 ?_ ?_|exact wpSteady_one rfl rfl rfl rfl (steady_ext (H0:=H0) rfl (by omega) (by assumption) (by assumption) (by with_reducible assumption)),?_⟩
  simp -dsimp (disch:=omega) only[wpS,wpT,Nat.reduceEqDiff,Nat.reduceAdd]
  refine⟨E1.trans X9,?_⟩
  by_cases he:e=0<;>simp[hd,he]
 ·rw[decide_eq_false hd] at hne
  simp -dsimp (disch:=omega) only[wpS,wpT,Nat.reduceEqDiff,hne]
  refine⟨by repeat' first|refine wpSteady_c2 ?_ ?_|refine wpSteady_t2 ?_ ?_|exact wpSteady_one rfl rfl rfl rfl (steady_ext (H0:=H0) rfl (by omega) (by assumption) (by assumption) (by with_reducible assumption)),?_⟩
  simp -dsimp (disch:=omega) only[wpS,wpT,Nat.reduceEqDiff,Nat.reduceAdd]
  exact⟨E1.trans X9,by simp[hd]⟩
end Go.Id

/-! Contracts: slices.Equal over shares. -/
namespace Go.Id
open Go
set_option maxHeartbeats 1000000 in
theorem shequal_ok {h:IH} {v v2:Value} {l l2:List (Nat×Nat)} (hv:ShSl h v l) (hv2:ShSl h v2 l2) :
  WV Proofs.Try.prog (.func (.func 17) #[] #[]) [v,v2] h fun r h'=>Ext h h'∧r=.bool (decide (l=l2)):=by
 have hlb:=hv.2.1
 refine enter (nt:=26) (rs:=[.tmp 4]) Proofs.Try.func17 rfl rfl rfl (by simp) ?_
 by_cases hlen:l.length=l2.length
 case neg =>
  have c1:(!((l.length:Int) == (l2.length:Int)))=true:=by simp;omega
  have hne:l≠l2:=fun e=>hlen (by rw[e])
  simp -dsimp (maxSteps:=1000000) (disch:=first|omega|(simp only[new_n,put_n];omega)|decide +kernel|(repeat first|rw[new_n]|rw[put_n])) only[wpS,wpT,Nat.reduceEqDiff,Nat.reduceAdd,hv.1.len sl28,hv2.1.len sl28]
  exact⟨Ext.refl _,by simp[hne]⟩
 have c1:(!((l.length:Int) == (l2.length:Int)))=false:=by simp;omega
 simp -dsimp (maxSteps:=1000000) (disch:=first|omega|(simp only[new_n,put_n];omega)|decide +kernel|(repeat first|rw[new_n]|rw[put_n])) only[wpS,wpT,Nat.reduceEqDiff,Nat.reduceAdd,hv.1.len sl28,hv2.1.len sl28]
 refine loop (fun m fr hh => ∃i:Nat,i+m=l.length∧Ext h hh∧(∀j,j<i→l[j]?=l2[j]?)∧fget fr 0=some v∧fget fr 1=some v2∧fget fr 12=some (KN l.length)∧fget fr 13=some (KN i)) l.length
  ⟨0,by omega,Ext.refl _,fun j hj=>by omega,by simp,by simp,by simp,by simp⟩ ?_
 rintro m fr hh ⟨i,him,hE,hj,f0,f1,f12,f13⟩
 simp -dsimp (maxSteps:=1000000) (disch:=first|omega|(simp only[new_n,put_n];omega)|decide +kernel|(repeat first|rw[new_n]|rw[put_n])) only[wpS,f12,f13]
 refine bq_intro ?_ ?_<;>intro hc<;>simp only[decide_eq_true_eq,decide_eq_false_iff_not] at hc
 ·have hi:i<l.length:=by omega
  have hi2:i<l2.length:=by omega
  obtain⟨p,hp⟩ : ∃p,l[i]?=some p:=⟨_,List.getElem?_eq_getElem hi⟩
  obtain⟨q,hq⟩ : ∃p,l2[i]?=some p:=⟨_,List.getElem?_eq_getElem hi2⟩
  obtain⟨w1,w2⟩:=hv.2.2 p (List.mem_of_getElem? hp)
  obtain⟨w3,w4⟩:=hv2.2.2 q (List.mem_of_getElem? hq)
  have hne : ∀ox oy,binop Proofs.Try.prog .neq 27 ox oy (shV p.1 p.2) (shV q.1 q.2)=some (.bool (!decide (p.1=q.1∧p.2=q.2))):=fun ox oy=>sh_neq w1 w2 w3 w4 ox oy
  by_cases hd:p.1=q.1∧p.2=q.2
  ·rw[decide_eq_true hd] at hne
   simp -dsimp (maxSteps:=1000000) (disch:=first|omega|(simp only[new_n,put_n];omega)|decide +kernel|(repeat first|rw[new_n]|rw[put_n])) only[wpS,wpT,Nat.reduceEqDiff,f0,f1,f13,hv.1.idx es28 hi,hv2.1.idx es28 hi2,hv.ld hE.keep hp,hv2.ld hE.keep hq,hne]
   refine⟨m - 1,by omega,i+1,by omega,hE,?_,by simp[f0],by simp[f1],by simp[f12],by simp⟩
   intro j h1
   by_cases hji:j=i
   ·subst hji;rw[hp,hq];exact congrArg some (Prod.ext hd.1 hd.2)
   ·exact hj j (by omega)
  ·rw[decide_eq_false hd] at hne
   have hll:l≠l2:=by
    intro e
    rw[e,hq] at hp
    cases hp
    exact hd ⟨rfl,rfl⟩
   simp -dsimp (maxSteps:=1000000) (disch:=first|omega|(simp only[new_n,put_n];omega)|decide +kernel|(repeat first|rw[new_n]|rw[put_n])) only[wpS,wpT,Nat.reduceEqDiff,f0,f1,f13,hv.1.idx es28 hi,hv2.1.idx es28 hi2,hv.ld hE.keep hp,hv2.ld hE.keep hq,hne]
   exact⟨hE,by simp[hll]⟩
 ·have hll:l=l2:=by
   apply List.ext_getElem?
   intro j
   by_cases hjl:j<i
   ·exact hj j hjl
   ·rw[List.getElem?_eq_none (by omega),List.getElem?_eq_none (by omega)]
  simp -dsimp (maxSteps:=1000000) (disch:=first|omega|(simp only[new_n,put_n];omega)|decide +kernel|(repeat first|rw[new_n]|rw[put_n])) only[wpS,wpT]
  exact⟨hE,by simp[hll]⟩
end Go.Id

/-! Contracts: drafts of numbers. -/
namespace Go.Id
open Go
end Go.Id

/-! Contracts: the law's small: some bool. -/
namespace Go.Id
open Go
end Go.Id

/-! Contracts: the reference's valid shares. -/
namespace Go.Id
open Go
end Go.Id

/-! Contracts: the reference's chapter 35: chains, means, autocovariances. -/
namespace Go.Id
open Go
end Go.Id

/-! Contracts: the reference's chapter 35: Batches. -/
namespace Go.Id
open Go
theorem shL_take : ∀(i:Nat) (l:List (Nat×Nat)),shL (l.take i)=(shL l).take (i*16)
 | 0,l=>by simp[shL]
 | i+1,[]=>by simp[shL]
 | i+1,a :: l=>by
  have ih:=shL_take i l
  simp only[shL] at ih
  rw[List.take_succ_cons,shL,shL,List.flatMap_cons,List.flatMap_cons,show(i+1)*16=(shC a.1 a.2).length+i*16 by rw[shC_len];omega,List.take_length_add_append,ih]
end Go.Id

/-! Contracts: the laws' helpers: lists cut, cloned and made longer. -/
namespace Go.Id
open Go
def ShArg (h:IH) (v:Value) (l:List (Nat×Nat)):Prop:=SlOf h 16 v l.length (shL l) ∧ ∀p∈l,p.1<W8∧p.2<W8
theorem ShSl.arg {h:IH} {v:Value} {l:List (Nat×Nat)} (s:ShSl h v l):ShArg h v l:=⟨s.1,s.2.2⟩
theorem ShArg.keep {h h':IH} {v:Value} {l:List (Nat×Nat)} (s:ShArg h v l) (e:Keep h h'):ShArg h' v l:=⟨s.1.keep e,s.2⟩
theorem ShArg.first {h h':IH} {v:Value} {l:List (Nat×Nat)} (s:ShArg h v l) (kp:Keep h h') {m:Nat} (hm:m≤l.length) (hm2:m≤100000) : ∃v',sliceOp Proofs.Try.prog h' 28 v none (some (KN m)) none=some v'∧ShSl h v' (l.take m):=by
 obtain⟨a,c⟩:=s
 obtain⟨v',e1,e2⟩:=a.slice kp (P:=Proofs.Try.prog) (t:=28) u28 sz27 (l:=0) (m:=m) (Nat.zero_le _) hm (lo:=none) (hi:=some (KN m)) rfl (fun c hc=>natOf_nat (k:=.i64) (by omega))
 refine⟨v',e1,?_,by rw[List.length_take];omega,fun p hp=>c p (List.mem_of_mem_take hp)⟩
 rw[List.length_take,Nat.min_eq_left hm,shL_take]
 simpa using e2
end Go.Id

/-! Contracts: the laws' helpers: short shares of drafts; a list made as long as the limit. -/
namespace Go.Id
open Go
def DrOf (cs:List Value):Prop:=∃b x n b2 x2 n2,cs = [.bool b,x,.int .u32 n,.bool b2,x2,.int .u32 n2]∧cellOK x=true∧cellOK x2=true∧0≤n∧n<4294967296∧0≤n2∧n2<4294967296
def DrSl (h:IH) (v:Value) (n:Nat):Prop:=∃cs,SlOf h 6 v n cs ∧ ∀i,i<n→DrOf ((cs.drop (i*6)).take 6)
theorem DrSl.keep {h h':IH} {v:Value} {n:Nat} (s:DrSl h v n) (e:Keep h h'):DrSl h' v n:=let ⟨cs,a,b⟩:=s;⟨cs,a.keep e,b⟩
end Go.Id

/-! The rows' common part (no table listed): shares and drafts that came in. -/
namespace Go.Proofs.Ythbkinefgmfgeaa
open Go.ChangeShapes Go.WideShapes Go.ChangeAt Go.RowKit Go.Id
theorem Try.own:ownKnob Try.prog.godebug=none:=by kernel_rfl
theorem Try.laidOut:laidOutB Try.prog=true:=by kernel_rfl
theorem Try.mapsOut:mapsRowed Try.prog=true:=by kernel_rfl
theorem Try.kids:Kids Try.prog (· < Try.prog.types.size):=kids_rows Try.laidOut Try.mapsOut
theorem Try.slices:((List.range Try.prog.types.size).all fun t=>match Try.prog.underlying t with
 | some (.slice e)=>decide (0<Try.prog.cellsOf e)
 | _=>true)=true:=by kernel_rfl
theorem Try.pos {t e:TypeId} (h:t<Try.prog.types.size) (hu:Try.prog.underlying t=some (.slice e)):0<Try.prog.cellsOf e:=by
 have:=List.all_eq_true.1 Try.slices t (by simpa using h)
 rw[hu] at this
 simpa using this
theorem Try.sound:Sound (E0 Try.prog):=sound0 (by kernel_rfl) (by kernel_rfl)
section
variable {H:Type} {enc:TypeId×Value→H} {W:World} {base:Nat} {sp:Nat→Bool} {held:Bool}
end
section
variable {H:Type} {enc:TypeId×Value→H} {W:World} {held:Bool}
end
end Go.Proofs.Ythbkinefgmfgeaa

/-! Contracts: package diagnose: what is wrong with several chains. -/
namespace Go.Id
open Go
def ShLs (h:IH) (v:Value) (ll:List (List (Nat×Nat))):Prop:=∃vs:List Value,SlOf h 1 v ll.length vs∧ll.length<1152921504606846976 ∧ ∀(i:Nat) (x:List (Nat×Nat)),ll[i]?=some x → ∃w,vs[i]?=some w∧ShSl h w x
theorem ShLs.keep {h h':IH} {v:Value} {ll:List (List (Nat×Nat))} (s:ShLs h v ll) (e:Keep h h'):ShLs h' v ll:=by
 obtain⟨vs,a,b,c⟩:=s
 refine⟨vs,a.keep e,b,fun i x hx=>?_⟩
 obtain⟨w,h1,h2⟩:=c i x hx
 exact⟨w,h1,h2.keep e⟩
theorem ShLs.at {h h':IH} {v:Value} {ll:List (List (Nat×Nat))} (s:ShLs h v ll) (e:Keep h h') {i:Nat} {x:List (Nat×Nat)} (hx:ll[i]?=some x) :
  ∃w,load Proofs.Try.prog h' 28 (elemAddr v i)=some w∧ShSl h' w x ∧ ∀k:IntKind,indexAddr Proofs.Try.prog 42 v (.int k (i:Int))=some (elemAddr v i):=by
 obtain⟨vs,a,b,c⟩:=s
 obtain⟨w,h1,h2⟩:=c i x hx
 have hi:=(List.getElem?_eq_some_iff.1 hx).1
 refine⟨w,?_,h2.keep e,fun k=>by rw[a.idx es42 hi,Nat.mul_one]⟩
 rw[a.ld e (by rw[a.2.1];omega) ag28]
 exact h1
theorem ShLs.co {h:IH} {v:Value} {ll:List (List (Nat×Nat))} (s:ShLs h v ll):v.cells = #[v]∧cellOK v=true ∧ ∀h',lenB Proofs.Try.prog h' 42 v=some (.int .i64 ll.length):=by
 obtain⟨vs,a,_⟩:=s
 exact⟨a.cells,a.cok,fun h'=>a.len sl42 h'⟩
theorem ShSl.co {h:IH} {v:Value} {l:List (Nat×Nat)} (s:ShSl h v l):v.cells = #[v]∧cellOK v=true:=⟨s.1.cells,s.1.cok⟩
set_option maxHeartbeats 1000000 in
theorem lscontains_ok {h:IH} {v F:Value} {ll:List (List (Nat×Nat))} (hv:ShLs h v ll) (p:List (Nat×Nat)→Bool) (hF : ∀h1 w x,Ext h h1→ShSl h1 w x→x∈ll→WV Proofs.Try.prog F [w] h1 fun r h2=>Ext h1 h2∧r=.bool (p x)) :
  WV Proofs.Try.prog (.func (.func 54) #[] #[]) [v,F] h fun r h'=>Ext h h'∧r=.bool (ll.any p):=by
 obtain⟨_,_,hlen⟩:=hv.co
 have hlb:=hv.choose_spec.2.1
 have hidx:WV Proofs.Try.prog (.func (.func 75) #[] #[]) [v,F] h fun r h'=>Ext h h' ∧ ∃c:Int,r=KI c∧decide (0≤c)=ll.any p:=by
  refine enter (nt:=19) (rs:=[.tmp 4]) Proofs.Try.func75 rfl rfl rfl (by simp) ?_
  simp -dsimp (disch:=omega) only[wpS,Nat.reduceEqDiff,Nat.reduceAdd,hlen]
  refine loop (fun m fr h1 => ∃i:Nat,i+m=ll.length∧Ext h h1∧(∀j x,j<i→ll[j]?=some x→p x=false)∧fget fr 0=some v∧fget fr 1=some F∧fget fr 7=some (KN ll.length)∧fget fr 8=some (KN i)) ll.length
   ⟨0,by omega,Ext.refl _,fun j x hj=>by omega,by simp,by simp,by simp,by simp⟩ ?_
  rintro m fr h1 ⟨i,him,hE,hno,f0,f1,f7,f8⟩
  simp -dsimp (disch:=omega) only[wpS,f7,f8]
  refine bq_intro ?_ ?_<;>intro hc<;>simp only[decide_eq_true_eq,decide_eq_false_iff_not] at hc
  ·have hi:i<ll.length:=by omega
   obtain⟨x,hx⟩ : ∃x,ll[i]?=some x:=⟨_,List.getElem?_eq_getElem hi⟩
   have hxm:=List.mem_of_getElem? hx
   obtain⟨w,l1,l2,l3⟩:=hv.at hE.keep hx
   simp -dsimp (disch:=omega) only[wpS,wpT,Nat.reduceEqDiff,f0,f1,f8,l1,l3]
   refine call (hF h1 w x hE l2 hxm) ?_
   rintro _ h2 ⟨hE2,rfl⟩
   have E2:=hE.trans hE2
   cases hp:p x with
   | false =>
    simp -dsimp (disch:=omega) only[wpS,Nat.reduceEqDiff,f8]
    refine⟨m - 1,by omega,i+1,by omega,E2,?_,by simp[f0],by simp[f1],by simp[f7],by simp⟩
    intro j q hj hq
    by_cases hji:j=i
    ·subst hji;rw[hx] at hq;cases hq;exact hp
    ·exact hno j q (by omega) hq
   | true =>
    simp -dsimp (disch:=omega) only[wpS,Nat.reduceEqDiff]
    refine⟨E2,(i:Int),rfl,?_⟩
    rw[decide_eq_true (by omega)]
    exact(List.any_eq_true.2 ⟨x,hxm,hp⟩).symm
  ·simp -dsimp (disch:=omega) only[wpS,wpT]
   refine⟨hE,-1,rfl,?_⟩
   rw[decide_eq_false (by omega)]
   symm
   rw[Bool.eq_false_iff]
   intro hany
   obtain⟨x,hxm,hp⟩:=List.any_eq_true.1 hany
   obtain⟨j,hj⟩:=List.getElem?_of_mem hxm
   have:=(List.getElem?_eq_some_iff.1 hj).1
   have:=hno j x (by omega) hj
   rw[hp] at this;cases this
 refine enter (nt:=9) (rs:=[.tmp 4]) Proofs.Try.func54 rfl rfl rfl (by simp) ?_
 simp -dsimp (disch:=omega) only[wpS,Nat.reduceEqDiff,Nat.reduceAdd]
 refine call hidx ?_
 rintro _ h1 ⟨hE,c,rfl,hc⟩
 simp -dsimp (disch:=omega) only[wpS,wpT,Nat.reduceEqDiff,hc]
 exact hE
theorem sev1_ok {h:IH} {v:Value} {l:List (Nat×Nat)} (hv:ShSl h v l):WV Proofs.Try.prog (.func (.func 55) #[] #[]) [v] h fun r h'=>Ext h h'∧r=.bool (decide (200<l.length)):=by
 refine enter (nt:=6) (rs:=[.tmp 2]) Proofs.Try.func55 rfl rfl rfl (by simp) ?_
 simp -dsimp (disch:=omega) only[wpS,Nat.reduceEqDiff,hv.1.len sl28]
 refine⟨Ext.refl _,?_⟩
 rw[decide_eq_decide.2]
 omega
def len0 (ll:List (List (Nat×Nat))):Nat:=(ll.getD 0 []).length
theorem sev2_ok {h:IH} {v vv:Value} {b:Nat} {l:List (Nat×Nat)} {ll:List (List (Nat×Nat))} (hv:ShSl h v l) (hvv:ShLs h vv ll) (hb:h.ext.get b=some (.cells [vv] 0 none)) (h0:0<ll.length) :
  WV Proofs.Try.prog (.func (.func 56) #[] #[ptr (2*b) 0]) [v] h fun r h'=>Ext h h'∧r=.bool (decide (l.length<2∨l.length≠len0 ll)):=by
 obtain⟨x,hx⟩ : ∃x,ll[0]?=some x:=⟨_,List.getElem?_eq_getElem h0⟩
 obtain⟨w,l1,l2,l3⟩:=hvv.at (Keep.refl _) hx
 have e0:len0 ll=x.length:=by rw[len0,List.getD_eq_getElem?_getD,hx];rfl
 rw[e0]
 have l3':indexAddr Proofs.Try.prog 42 vv (.int .i64 0)=some (elemAddr vv 0):=l3 .i64
 have hr:=row_of hb
 refine enter (nt:=16) (rs:=[.tmp 3]) Proofs.Try.func56 rfl rfl rfl (by simp) ?_
 by_cases h2:l.length<2
 ·have c1:decide ((l.length:Int)<2)=true:=decide_eq_true (by omega)
  simp -dsimp (disch:=omega) only[wpS,wpT,Nat.reduceEqDiff,Nat.reduceAdd,hv.1.len sl28,c1]
  exact⟨Ext.refl _,by rw[decide_eq_true (Or.inl h2)]⟩
 ·have c1:decide ((l.length:Int)<2)=false:=decide_eq_false (by omega)
  simp -dsimp (disch:=omega) only[wpS,wpT,Nat.reduceEqDiff,Nat.reduceAdd,ld42,hv.1.len sl28,c1,hr,l3',l1,l2.1.len sl28]
  refine⟨Ext.refl _,?_⟩
  by_cases hne:l.length=x.length
  ·rw[decide_eq_false (by omega)];simp;omega
  ·rw[decide_eq_true (Or.inr hne)];simp;omega
def svErr (ll:List (List (Nat×Nat))):Int:=if 8<ll.length∨ll.any (fun x=>decide (200<x.length))=true then 3 else if ll.any (fun x=>decide (¬allOk x))=true then 20 else if ll.length<2∨ll.any (fun x=>decide (x.length<2∨x.length≠len0 ll))=true then 5 else 0
set_option maxHeartbeats 1000000 in
theorem several_ok {h:IH} {v:Value} {ll:List (List (Nat×Nat))} (hv:ShLs h v ll):WV Proofs.Try.prog (.func (.func 34) #[] #[]) [v] h fun r h'=>Ext h h'∧r=KI (svErr ll):=by
 obtain⟨vc,vo,hlen⟩:=hv.co
 have E1:Ext h (h.new (.cells [v] 0 none)):=(Ext.refl h).new _
 have g1:(h.new (.cells [v] 0 none)).ext.get h.n=some (.cells [v] 0 none):=by simp (disch:=first|omega|(simp only[new_n,put_n];omega)|(repeat first|rw[new_n]|rw[put_n])) only[get_new_same]
 unfold svErr
 refine enter (nt:=20) (rs:=[.tmp 2]) Proofs.Try.func34 rfl rfl rfl (by simp) ?_
 by_cases h8:8<ll.length
 ·have c1:decide ((8:Int)<(ll.length:Int))=true:=decide_eq_true (by omega)
  rw[if_pos (.inl h8)]
  simp -dsimp (disch:=omega) only[wpS,wpT,Nat.reduceEqDiff,ld42,vc,hlen,c1]
  exact E1
 have c1:decide ((8:Int)<(ll.length:Int))=false:=decide_eq_false (by omega)
 simp -dsimp (disch:=omega) only[wpS,wpT,Nat.reduceEqDiff,ld42,vc,hlen,c1]
 refine call (lscontains_ok (hv.keep E1.keep) (fun x=>decide (200<x.length)) fun h1 w x _ hw _=>sev1_ok hw) ?_
 rintro _ h1 ⟨X1,rfl⟩
 have m1:=X1.n
 simp only[new_n] at m1
 have k1:=X1.kept (by simp) g1
 cases ha1:ll.any (fun x=>decide (200<x.length)) with
 | true =>
  rw[if_pos (.inr rfl)]
  simp -dsimp (disch:=omega) only[wpS,wpT,Nat.reduceEqDiff]
  exact E1.trans X1
 | false =>
  rw[if_neg (by simp;omega)]
  simp -dsimp (disch:=omega) only[wpS,Nat.reduceEqDiff,ld42,row_of k1]
  refine call (lscontains_ok (hv.keep (E1.trans X1).keep) (fun x=>decide (¬allOk x)) fun h1 w x _ hw _=>wrong_ok hw) ?_
  rintro _ h2 ⟨X2,rfl⟩
  have m2:=X2.n
  have k2:=X2.kept (by omega) k1
  cases ha2:ll.any (fun x=>decide (¬allOk x)) with
  | true =>
   rw[if_pos rfl]
   simp -dsimp (disch:=omega) only[wpS,wpT,Nat.reduceEqDiff]
   exact(E1.trans X1).trans X2
  | false =>
   rw[if_neg (by simp)]
   by_cases h2:ll.length<2
   ·have c2:decide ((ll.length:Int)<2)=true:=decide_eq_true (by omega)
    rw[if_pos (.inl h2)]
    simp -dsimp (disch:=omega) only[wpS,wpT,Nat.reduceEqDiff,ld42,row_of k2,hlen,c2]
    exact(E1.trans X1).trans X2
   ·have c2:decide ((ll.length:Int)<2)=false:=decide_eq_false (by omega)
    simp -dsimp (disch:=omega) only[wpS,wpT,Nat.reduceEqDiff,ld42,row_of k2,hlen,c2]
    have hv2:=hv.keep ((E1.trans X1).trans X2).keep
    refine call (lscontains_ok hv2 (fun x=>decide (x.length<2∨x.length≠len0 ll)) fun h3 w x e hw _=>sev2_ok hw (hv2.keep e.keep) (e.kept (by omega) k2) (by omega)) ?_
    rintro _ h3 ⟨X3,rfl⟩
    cases ha3:ll.any (fun x=>decide (x.length<2∨x.length≠len0 ll)) with
    | true =>
     rw[if_pos (.inr rfl)]
     simp -dsimp (disch:=omega) only[wpS,wpT,Nat.reduceEqDiff]
     exact((E1.trans X1).trans X2).trans X3
    | false =>
     rw[if_neg (by simp;omega)]
     simp -dsimp (disch:=omega) only[wpS,wpT,Nat.reduceEqDiff]
     exact((E1.trans X1).trans X2).trans X3
end Go.Id

/-! Contracts: the reference's chapter 35: what is wrong with several chains. -/
namespace Go.Id
open Go
end Go.Id

/-! Contracts: the reference's chapter 35: autocovariances, Mean, Auto. -/
namespace Go.Id
open Go
end Go.Id

/-! Contracts: package diagnose: the variance within. -/
namespace Go.Id
open Go
set_option maxHeartbeats 2000000 in
theorem total2_ok {h:IH} {v F:Value} {ll:List (List (Nat×Nat))} (hv:ShLs h v ll) (f:List (Nat×Nat)→Rat) (k:Nat) (hF : ∀h1 w x,Ext h h1→ShSl h1 w x→x∈ll→WV Proofs.Try.prog F [w] h1 fun r h2=>Ext h1 h2∧PRat h2 r (f x)) (hk : ∀x∈ll,QB k (f x)) (hb:ll.length*(k+1)<16000000) :
  WV Proofs.Try.prog (.func (.func 57) #[] #[]) [v,F] h fun r h'=>Ext h h'∧PRat h' r (qsum (ll.map f)):=by
 obtain⟨_,_,hlen⟩:=hv.co
 have hlb:=hv.choose_spec.2.1
 have hQ : ∀i,i≤ll.length→QB (i*(k+1)) (qsum ((ll.take i).map f)):=by
  intro i hi
  have:=QB.qsum (k:=k) (l:=ll.map f) (by intro q hq;obtain⟨x,hx,rfl⟩:=List.mem_map.1 hq;exact hk x hx) i (by simpa using hi)
  rwa [←List.map_take] at this
 refine enter (nt:=22) (rs:=[.cell 4 51]) Proofs.Try.func57 rfl rfl rfl (by simp) ?_
 simp -dsimp (disch:=omega) only[wpS,Nat.reduceAdd,zc51]
 have E1:Ext h (h.new (.cells ZR 0 none)):=(Ext.refl h).new _
 have g1:(h.new (.cells ZR 0 none)).ext.get h.n=some (.cells ZR 0 none):=by simp (disch:=first|omega|(simp only[new_n,put_n];omega)|(repeat first|rw[new_n]|rw[put_n])) only[get_new_same]
 refine call (rfrom_ok 0 ⟨by omega,by omega⟩) ?_
 rintro z h1 ⟨X1,p1⟩
 have m1:=X1.n
 simp only[new_n] at m1
 obtain⟨a3,s3,b3,t3,rfl,_,_,d1,o1,d2,o2,o3,o4⟩:=p1.parts
 have kg:=X1.kept (by simp) g1
 simp -dsimp (disch:=omega) only[wpS,wpT,Nat.reduceEqDiff,Nat.reduceLeDiff,Nat.reduceAdd,zc51,st51,o1,o2,o3,o4,hlen]
 have Ex2:Ext h1 ((h1.new (.cells ZR 0 none)).put h1.n (.cells [a3,s3,b3,t3] 0 none)):=((Ext.refl h1).new _).put (Nat.le_refl _) _
 refine loop (fun m fr hh => ∃(i:Nat) (a s b t:Value),i+m=ll.length∧Ext h hh∧h1.n<hh.n∧hh.ext.get h.n=some (.cells ZR 0 none)∧hh.ext.get h1.n=some (.cells [a,s,b,t] 0 none)∧PRat hh (.agg #[a,s,b,t]) (qsum ((ll.take i).map f)) ∧
   fget fr 1=some F∧fget fr 4=some (ptr (2*h.n) 0)∧fget fr 5=some (ptr (2*h1.n) 0)∧fget fr 9=some v∧fget fr 10=some (KN ll.length)∧fget fr 11=some (KN i)) ll.length
  ⟨0,a3,s3,b3,t3,by omega,(E1.trans X1).trans Ex2,by simp,by simp (disch:=first|omega|(simp only[new_n,put_n];omega)|(repeat first|rw[new_n]|rw[put_n])) only[get_new_old,get_put_old];exact kg,by simp (disch:=first|omega|(simp only[new_n,put_n];omega)|(repeat first|rw[new_n]|rw[put_n])) only[get_put_same],p1.keep Ex2.keep,by simp,by simp,by simp,by simp,by simp,by simp⟩ ?_
 clear p1 kg Ex2
 rintro m fr hh ⟨i,a,s,b,t,him,hE,hn,hg,hg5,hp,f1,f4,f5,f9,f10,f11⟩
 simp -dsimp (disch:=omega) only[wpS,f10,f11]
 refine bq_intro ?_ ?_<;>intro hc<;>simp only[decide_eq_true_eq,decide_eq_false_iff_not] at hc
 ·have hi:i<ll.length:=by omega
  obtain⟨x,hx⟩ : ∃x,ll[i]?=some x:=⟨_,List.getElem?_eq_getElem hi⟩
  have hxm:=List.mem_of_getElem? hx
  obtain⟨w,l1,l2,l3⟩:=hv.at hE.keep hx
  simp -dsimp (disch:=omega) only[wpS,wpT,Nat.reduceEqDiff,f9,f11,l1,l3]
  have X0:=Ext.refl hh
  obtain⟨_,_,L1⟩:=pl4 hg5
  have hnn:=hE.n
  refine drawn [(0,[4])] (by kernel_rfl) (by kernel_rfl) rfl ?_
  simp -dsimp (disch:=omega) only[wpS,wpT,Nat.reduceEqDiff,Nat.reduceLeDiff,Nat.reduceAdd,ld51,f1,f5,row_of hg5,tk4']
  refine call (hF hh w x hE l2 hxm) ?_
  rintro r h2 ⟨X2,p2⟩
  have m2:=X2.n
  simp -dsimp (disch:=omega) only[wpS,Nat.reduceEqDiff]
  have hkb:i*(k+1)+k+1<16000000:=by
   have:(i+1)*(k+1)≤ll.length*(k+1):=Nat.mul_le_mul_right _ hi
   rw[Nat.add_mul] at this;omega
  refine call (rplus_ok (hp.keep X2.keep) p2 (hQ i (by omega)) (hk x hxm) hkb) ?_
  rintro r3 h3 ⟨hE3,p3⟩
  have m3:=hE3.n
  have X3:=X2.trans hE3
  have eT:qsum ((ll.take i).map f)+f x=qsum ((ll.take (i+1)).map f):=by rw[take_snoc hx,List.map_append,List.map_cons,List.map_nil,qsum_snoc]
  rw[eT] at p3
  obtain⟨a4,s4,b4,t4,rfl,_,_,_,o1,_,o2,o3,o4⟩:=p3.parts
  have k5:=X3.kept (by omega) hg5
  have kz:=X3.kept (by omega) hg
  simp -dsimp (disch:=omega) only[wpS,wpT,Nat.reduceEqDiff,Nat.reduceLeDiff,Nat.reduceAdd,st51,f5,k5,o1,o2,o3,o4]
  refine⟨wpSteady_one rfl rfl rfl rfl (steady_ext (H0:=hh) (b:=2*h1.n) (o:=0) f5 (by omega) (by assumption) (by assumption) L1),?_⟩
  simp -dsimp (disch:=omega) only[wpS,wpT,Nat.reduceEqDiff,Nat.reduceAdd,f11]
  refine⟨m - 1,by omega,i+1,a4,s4,b4,t4,by omega,(hE.trans X3).put (by omega) _,by simp only[put_n];omega,by simp (disch:=first|omega|(simp only[new_n,put_n];omega)|(repeat first|rw[new_n]|rw[put_n])) only[get_put_old];exact kz,get_put_same _ _ rfl,p3.keep ((Keep.refl _).put k5 _),by simp[f1],by simp[f4],by simp[f5],by simp[f9],by simp[f10],by simp⟩
 ·obtain rfl:i=ll.length:=by omega
  rw[List.take_length] at hp
  obtain⟨_,_,_,_,hhe,_,_,_,o1,_,o2,o3,o4⟩:=hp.parts
  cases hhe
  simp -dsimp (disch:=omega) only[wpS,wpT,Nat.reduceEqDiff,Nat.reduceLeDiff,Nat.reduceAdd,st51,ld51,f4,f5,row_of hg5,hg,tk4',o1,o2,o3,o4]
  exact⟨hE.put (Nat.le_refl _) _,hp.keep ((Keep.refl _).put hg _)⟩
def qsqm (l:List Rat):Rat:=qsq l (qmean l)
abbrev sBits (n k:Nat):Nat:=n*(k+(n*(k+1)+17)+1+(k+(n*(k+1)+17)+1)+1)
theorem qsqm_bits {l:List Rat} {k:Nat} (h0:l ≠ []) (hl:l.length≤100000) (hk : ∀q∈l,QB k q):QB (sBits l.length k) (qsqm l):=by
 have:=QB.qsumAll (l:=l.map fun x=>(x - qmean l)*(x - qmean l)) (k:=k+(l.length*(k+1)+17)+1+(k+(l.length*(k+1)+17)+1)) (by
  intro q hq
  obtain⟨x,hx,rfl⟩:=List.mem_map.1 hq
  exact qsq_bits hk (qmean_bits h0 hl hk) x hx)
 rw[List.length_map] at this
 exact this
set_option maxHeartbeats 1000000 in
theorem within1_ok {h:IH} {v:Value} {l:List (Nat×Nat)} (hv:ShSl h v l) (hok:allOk l) (hl:l.length≤1000) (h0:l ≠ []) {k:Nat} (hk : ∀q∈l.map rOf,QB k q) (hb:sBits l.length k<16000000) :
  WV Proofs.Try.prog (.func (.func 58) #[] #[]) [v] h fun r h'=>Ext h h'∧PRat h' r (qsqm (l.map rOf)):=by
 have hl0:0<l.length:=List.length_pos_iff.2 h0
 have hone:1*(k+(l.length*(k+1)+17)+1+(k+(l.length*(k+1)+17)+1)+1)≤sBits l.length k:=Nat.mul_le_mul_right _ hl0
 have hmb:QB (l.length*(k+1)+17) (qmean (l.map rOf)):=by
  have:=qmean_bits (l:=l.map rOf) (by simpa using h0) (by simp;omega) hk
  rwa [List.length_map] at this
 refine enter (nt:=11) (rs:=[.cell 2 51]) Proofs.Try.func58 rfl rfl rfl (by simp) ?_
 simp -dsimp (disch:=omega) only[wpS,Nat.reduceEqDiff,zc51]
 have E1:Ext h (h.new (.cells ZR 0 none)):=(Ext.refl h).new _
 have g1:(h.new (.cells ZR 0 none)).ext.get h.n=some (.cells ZR 0 none):=by simp (disch:=first|omega|(simp only[new_n,put_n];omega)|(repeat first|rw[new_n]|rw[put_n])) only[get_new_same]
 refine call (chain_ok (hv.keep E1.keep) hok hl h0 hk (by omega)) ?_
 rintro _ h1 ⟨X1,s,a1,s1,b1,t1,rfl,hs,hc⟩
 have m1:=X1.n
 simp only[new_n] at m1
 obtain⟨sc,so⟩:=hs.co
 obtain⟨_,_,_,_,hhe,_,_,_,o1,_,o2,o3,o4⟩:=hc.parts
 cases hhe
 simp -dsimp (disch:=omega) only[wpS,wpT,Nat.reduceEqDiff,Nat.reduceLeDiff,Nat.reduceAdd,zc55,st55,fa55_0,ld53,fa55_1,ld51,so,o1,o2,o3,o4]
 have E2:Ext h1 ((h1.new (.cells [.slice none 0 0,.bool false,.slice none 0 0,.bool false,.slice none 0 0] 0 none)).put h1.n (.cells [s,a1,s1,b1,t1] 0 none)):=((Ext.refl h1).new _).put (Nat.le_refl _) _
 refine call (squares_ok (hs.keep kept_p E2.keep) (hc.keep E2.keep) hk hmb (by rw[List.length_map];exact hb) (by omega)) ?_
 rintro r3 h3 ⟨X3,p3⟩
 have m3:=X3.n
 simp only[put_n,new_n] at m3
 obtain⟨a3,s3,b3,t3,rfl,_,_,d1,o5,d2,o6,o7,o8⟩:=p3.parts
 have kg:=X3.kept (by simp;omega) (E2.kept (by omega) (X1.kept (by simp) g1))
 simp -dsimp (disch:=omega) only[wpS,wpT,Nat.reduceEqDiff,Nat.reduceLeDiff,Nat.reduceAdd,ld51,st51,kg,o5,o6,o7,o8,tk4']
 exact⟨(((E1.trans X1).trans E2).trans X3).put (by omega) _,p3.keep ((Keep.refl _).put kg _)⟩
end Go.Id

/-! Contracts: package diagnose: the variance within, and that of the means. -/
namespace Go.Id
open Go
theorem sv_zero {ll:List (List (Nat×Nat))} (h:svErr ll=0):2≤ll.length∧ll.length≤8 ∧ ∀x∈ll,x.length≤200∧allOk x∧2≤x.length∧x.length=len0 ll:=by
 unfold svErr at h
 split at h
 ·omega
 ·rename_i h1
  split at h
  ·omega
  ·rename_i h2
   split at h
   ·omega
   ·rename_i h3
    have a1 : ¬8<ll.length:=fun hh=>h1 (.inl hh)
    have a3 : ¬ll.length<2:=fun hh=>h3 (.inl hh)
    refine⟨by omega,by omega,fun x hx=>?_⟩
    have b1 : ¬200<x.length:=fun hh=>h1 (.inr (List.any_eq_true.2 ⟨x,hx,decide_eq_true hh⟩))
    have b2:allOk x:=Classical.byContradiction fun hh=>h2 (List.any_eq_true.2 ⟨x,hx,decide_eq_true hh⟩)
    have b3 : ¬(x.length<2∨x.length≠len0 ll):=fun hh=>h3 (.inr (List.any_eq_true.2 ⟨x,hx,decide_eq_true hh⟩))
    exact⟨by omega,b2,by omega,by omega⟩
theorem len0_at {ll:List (List (Nat×Nat))} (h:2≤ll.length) : ∃x,ll[0]?=some x∧x∈ll∧len0 ll=x.length:=by
 obtain⟨x,hx⟩ : ∃x,ll[0]?=some x:=⟨_,List.getElem?_eq_getElem (by omega)⟩
 exact⟨x,hx,List.mem_of_getElem? hx,by rw[len0,List.getD_eq_getElem?_getD,hx];rfl⟩
def qwithin (ll:List (List (Nat×Nat))):Rat:=qsum (ll.map fun x=>qsqm (x.map rOf)) / (((ll.length*(len0 ll - 1):Nat):Int):Rat)
def qcentres (ll:List (List (Nat×Nat))):List Rat:=ll.map fun x=>qmean (x.map rOf)
def qmeansV (ll:List (List (Nat×Nat))):Rat:=qsqm (qcentres ll) / (((ll.length - 1:Nat):Int):Rat)
abbrev wBits (m n k:Nat):Nat:=m*(sBits n k+1)+17
abbrev vBits (m n k:Nat):Nat:=sBits m (mBits n k)+17
theorem small_rat {n:Nat} (h:n≤100000):QB 17 (((n:Nat):Int):Rat):=by
 refine QB.int ?_
 have e:2 ^ 17=131072:=by decide
 rw[Int.natAbs_natCast,e];omega
theorem nat_rat_ne {n:Nat} (h:0<n):(((n:Nat):Int):Rat)≠0:=by
 intro h0
 have:=Rat.intCast_eq_zero_iff.1 h0
 omega
structure SvOk (ll:List (List (Nat×Nat))) (k:Nat):Prop where
 e:svErr ll=0
 b : ∀x∈ll,∀q∈x.map rOf,QB k q
theorem SvOk.sq {ll:List (List (Nat×Nat))} {k:Nat} (s:SvOk ll k) : ∀x∈ll,QB (sBits (len0 ll) k) (qsqm (x.map rOf)):=fun x hx=>by
 obtain⟨_,_,h⟩:=sv_zero s.e
 obtain⟨h1,h2,h3,h4⟩:=h x hx
 have:=qsqm_bits (l:=x.map rOf) (k:=k) (by intro h0;simp at h0;rw[h0] at h3;simp at h3) (by simp;omega) (s.b x hx)
 rw[List.length_map,h4] at this
 exact this
theorem SvOk.within {ll:List (List (Nat×Nat))} {k:Nat} (s:SvOk ll k):QB (wBits ll.length (len0 ll) k) (qwithin ll):=by
 obtain⟨h1,h2,h⟩:=sv_zero s.e
 obtain⟨x,hx,hxm,hx0⟩:=len0_at h1
 obtain⟨a1,a2,a3,a4⟩:=h x hxm
 have h5:=QB.qsumAll (l:=ll.map fun x=>qsqm (x.map rOf)) (k:=sBits (len0 ll) k) (by intro q hq;obtain⟨x,hx,rfl⟩:=List.mem_map.1 hq;exact s.sq x hx)
 rw[List.length_map] at h5
 have hm:ll.length*(len0 ll - 1)≤8*200:=Nat.mul_le_mul h2 (by omega)
 exact h5.div (small_rat (by omega)) (nat_rat_ne (Nat.mul_pos (by omega) (by omega)))
theorem SvOk.centres {ll:List (List (Nat×Nat))} {k:Nat} (s:SvOk ll k) : ∀q∈qcentres ll,QB (mBits (len0 ll) k) q:=fun q hq=>by
 obtain⟨x,hx,rfl⟩:=List.mem_map.1 hq
 obtain⟨_,_,h⟩:=sv_zero s.e
 obtain⟨h1,h2,h3,h4⟩:=h x hx
 have:=qmean_bits (l:=x.map rOf) (k:=k) (by intro h0;simp at h0;rw[h0] at h3;simp at h3) (by simp;omega) (s.b x hx)
 rw[List.length_map,h4] at this
 exact this
theorem SvOk.means {ll:List (List (Nat×Nat))} {k:Nat} (s:SvOk ll k):QB (vBits ll.length (len0 ll) k) (qmeansV ll):=by
 obtain⟨h1,h2,h⟩:=sv_zero s.e
 have h5:=qsqm_bits (l:=qcentres ll) (k:=mBits (len0 ll) k) (by intro h0;simp[qcentres] at h0;rw[h0] at h1;simp at h1) (by simp[qcentres];omega) s.centres
 rw[qcentres,List.length_map] at h5
 exact h5.div (small_rat (by omega)) (nat_rat_ne (by omega))
set_option maxHeartbeats 2000000 in
theorem dgwithin_ok {h:IH} {v:Value} {ll:List (List (Nat×Nat))} {k:Nat} (hv:ShLs h v ll) (s:SvOk ll k) (hb:wBits ll.length (len0 ll) k<16000000) :
  WV Proofs.Try.prog (.func (.func 35) #[] #[]) [v] h fun r h'=>Ext h h'∧PRat h' r (qwithin ll):=by
 obtain⟨h1,h2,hx⟩:=sv_zero s.e
 obtain⟨x0,hx0,hxm0,hl0⟩:=len0_at h1
 obtain⟨y1,y2,y3,y4⟩:=hx x0 hxm0
 obtain⟨_,_,hlen⟩:=hv.co
 have hb':ll.length*(sBits (len0 ll) k+1)+17<16000000:=hb
 have hs1:1*(sBits (len0 ll) k+1)≤ll.length*(sBits (len0 ll) k+1):=Nat.mul_le_mul_right _ (by omega)
 refine enter (nt:=17) (rs:=[.cell 2 51]) Proofs.Try.func35 rfl rfl rfl (by simp) ?_
 simp -dsimp (disch:=omega) only[wpS,Nat.reduceEqDiff,zc51]
 have E1:Ext h (h.new (.cells ZR 0 none)):=(Ext.refl h).new _
 have g1:(h.new (.cells ZR 0 none)).ext.get h.n=some (.cells ZR 0 none):=by simp (disch:=first|omega|(simp only[new_n,put_n];omega)|(repeat first|rw[new_n]|rw[put_n])) only[get_new_same]
 refine call (total2_ok (hv.keep E1.keep) (fun x=>qsqm (x.map rOf)) (sBits (len0 ll) k) (fun hh w x e hw hxm=>?_) s.sq (by omega)) ?_
 ·obtain⟨z1,z2,z3,z4⟩:=hx x hxm
  exact within1_ok hw z2 (by omega) (by intro h0;rw[h0] at z3;simp at z3) (s.b x hxm) (by rw[z4];omega)
 rintro _ h3 ⟨X1,p1⟩
 have m1:=X1.n
 simp only[new_n] at m1
 obtain⟨a3,s3,b3,t3,rfl,_,_,_,o1,_,o2,o3,o4⟩:=p1.parts
 simp -dsimp (disch:=omega) only[wpS,wpT,Nat.reduceEqDiff,Nat.reduceLeDiff,Nat.reduceAdd,zc51,st51,o1,o2,o3,o4]
 obtain⟨H0,hH0⟩ : ∃H0,H0=(h3.new (.cells ZR 0 none)).put h3.n (.cells [a3,s3,b3,t3] 0 none):=⟨_,rfl⟩
 have e0:Ext h3 H0:=by rw[hH0];exact((Ext.refl _).new _).put (Nat.le_refl _) _
 have n0:H0.n=h3.n+1:=by rw[hH0];rfl
 have gx:H0.ext.get h3.n=some (.cells [a3,s3,b3,t3] 0 none):=by rw[hH0];simp (disch:=first|omega|(simp only[new_n,put_n];omega)|(repeat first|rw[new_n]|rw[put_n])) only[get_put_same]
 have p1':=p1.keep e0.keep
 rw[←hH0]
 clear hH0
 have X0:=Ext.refl H0
 obtain⟨_,_,L1⟩:=pl4 gx
 obtain⟨w,l1,l2,l3⟩:=hv.at ((E1.trans X1).trans e0).keep hx0
 have l3':indexAddr Proofs.Try.prog 42 v (.int .i64 0)=some (elemAddr v 0):=l3 .i64
 have eN:(x0.length:Int) - 1=((len0 ll - 1:Nat):Int):=by omega
 have eM:(ll.length:Int)*((len0 ll - 1:Nat):Int)=((ll.length*(len0 ll - 1):Nat):Int):=by simp
 have hm:ll.length*(len0 ll - 1)≤8*200:=Nat.mul_le_mul h2 (by omega)
 have hmp:0<ll.length*(len0 ll - 1):=Nat.mul_pos (by omega) (by omega)
 refine drawn [(0,[10])] (by kernel_rfl) (by kernel_rfl) rfl ?_
 simp -dsimp (disch:=omega) only[wpS,wpT,Nat.reduceEqDiff,Nat.reduceLeDiff,Nat.reduceAdd,ld51,row_of gx,tk4',hlen,l3',l1,l2.1.len sl28,eN,eM]
 refine call (rfrom_ok ((ll.length*(len0 ll - 1):Nat):Int) ⟨by omega,by omega⟩) ?_
 rintro r4 h4 ⟨X4,p4⟩
 have m4:=X4.n
 simp -dsimp (disch:=omega) only[wpS,Nat.reduceEqDiff]
 have hS:=QB.qsumAll (l:=ll.map fun x=>qsqm (x.map rOf)) (k:=sBits (len0 ll) k) (by intro q hq;obtain⟨x,hx,rfl⟩:=List.mem_map.1 hq;exact s.sq x hx)
 rw[List.length_map] at hS
 refine call (rover_ok (p1'.keep X4.keep) p4 hS (small_rat (by omega)) hb (nat_rat_ne hmp)) ?_
 rintro _ h5 ⟨X5,p5⟩
 have m5:=X5.n
 have X45:=X4.trans X5
 obtain⟨a5,s5,b5,t5,rfl,_,_,_,u1,_,u2,u3,u4⟩:=p5.parts
 have kg:=X45.kept (by omega) (e0.kept (by omega) (X1.kept (by simp) g1))
 simp -dsimp (disch:=omega) only[wpS,wpT,Nat.reduceEqDiff,Nat.reduceLeDiff,Nat.reduceAdd,st51,kg,u1,u2,u3,u4]
 refine⟨by repeat' first|refine wpSteady_c2 ?_ ?_|refine wpSteady_t2 ?_ ?_|exact wpSteady_one rfl rfl rfl rfl (steady_ext (H0:=H0) rfl (by omega) (by assumption) (by assumption) (by with_reducible assumption)),?_⟩
 simp -dsimp (disch:=omega) only[wpS,wpT,Nat.reduceEqDiff,Nat.reduceLeDiff,Nat.reduceAdd,ld51,tk4']
 exact⟨(((E1.trans X1).trans e0).trans X45).put (by omega) _,p5.keep ((Keep.refl _).put kg _)⟩
set_option maxHeartbeats 4000000 in
theorem dgmeans_ok {h:IH} {v:Value} {ll:List (List (Nat×Nat))} {k:Nat} (hv:ShLs h v ll) (s:SvOk ll k) (hb:vBits ll.length (len0 ll) k<16000000) :
  WV Proofs.Try.prog (.func (.func 36) #[] #[]) [v] h fun r h'=>Ext h h'∧PRat h' r (qmeansV ll):=by
 obtain⟨h1,h2,hx⟩:=sv_zero s.e
 obtain⟨x0,hx0,hxm0,hl0⟩:=len0_at h1
 obtain⟨y1,y2,y3,y4⟩:=hx x0 hxm0
 obtain⟨_,_,hlen⟩:=hv.co
 have hcl:(qcentres ll).length=ll.length:=by simp[qcentres]
 have hcn:qcentres ll ≠ []:=by intro h0;rw[h0] at hcl;simp at hcl;omega
 have hb':sBits ll.length (mBits (len0 ll) k)+17<16000000:=hb
 have hb2:ll.length*(mBits (len0 ll) k+(ll.length*(mBits (len0 ll) k+1)+17)+1+(mBits (len0 ll) k+(ll.length*(mBits (len0 ll) k+1)+17)+1)+1)<16000000:=Nat.lt_of_le_of_lt (Nat.le_add_right _ 17) hb'
 have hs0:1*(mBits (len0 ll) k+(ll.length*(mBits (len0 ll) k+1)+17)+1+(mBits (len0 ll) k+(ll.length*(mBits (len0 ll) k+1)+17)+1)+1)≤sBits ll.length (mBits (len0 ll) k):=Nat.mul_le_mul_right _ (by omega)
 refine enter (nt:=28) (rs:=[.cell 2 51]) Proofs.Try.func36 rfl rfl rfl (by simp) ?_
 simp -dsimp (disch:=omega) only[wpS,Nat.reduceEqDiff,zc51,hlen]
 have E1:Ext h (h.new (.cells ZR 0 none)):=(Ext.refl h).new _
 have g1:(h.new (.cells ZR 0 none)).ext.get h.n=some (.cells ZR 0 none):=by simp (disch:=first|omega|(simp only[new_n,put_n];omega)|(repeat first|rw[new_n]|rw[put_n])) only[get_new_same]
 refine loop_cut (fun fr hh => ∃out cs,Ext h hh∧h.n<hh.n∧hh.ext.get h.n=some (.cells ZR 0 none)∧Acc hh (h.n+1) 4 out (qcentres ll).length cs∧ElCs PRat hh (qcentres ll) cs∧fget fr 0=some v∧fget fr 2=some (ptr (2*h.n) 0)∧fget fr 3=some out) ?_ ?_
 ·refine loop (fun m fr hh => ∃(i:Nat) (out:Value) (cs:List Value),i+m=ll.length∧Ext (h.new (.cells ZR 0 none)) hh∧Acc hh (h.n+1) 4 out ((qcentres ll).take i).length cs∧ElCs PRat hh ((qcentres ll).take i) cs∧fget fr 0=some v∧fget fr 2=some (ptr (2*h.n) 0)∧fget fr 3=some out∧fget fr 6=some v∧fget fr 7=some (KN ll.length)∧fget fr 8=some (KN i)) ll.length
   ⟨0,.slice none 0 0,[],by omega,Ext.refl _,Acc.nil _ _ (by omega),by simp[ElCs],by simp,by simp,by simp,by simp,by simp,by simp⟩ ?_
  rintro m fr hh ⟨i,out,cs,him,hE,hA,hC,f0,f2,f3,f6,f7,f8⟩
  have mE:=hE.n
  simp only[new_n] at mE
  simp -dsimp (disch:=omega) only[wpS,f7,f8]
  refine bq_intro ?_ ?_<;>intro hc<;>simp only[decide_eq_true_eq,decide_eq_false_iff_not] at hc
  ·have hi:i<ll.length:=by omega
   obtain⟨x,hxx⟩ : ∃x,ll[i]?=some x:=⟨_,List.getElem?_eq_getElem hi⟩
   have hxm:=List.mem_of_getElem? hxx
   obtain⟨z1,z2,z3,z4⟩:=hx x hxm
   obtain⟨w,l1,l2,l3⟩:=hv.at (E1.trans hE).keep hxx
   have hqx:(qcentres ll)[i]?=some (qmean (x.map rOf)):=by simp[qcentres,hxx]
   have hmb:mBits x.length k<16000000:=by rw[z4];omega
   simp -dsimp (disch:=omega) only[wpS,wpT,Nat.reduceEqDiff,f3,f6,f8,l1,l3]
   refine call (chain_ok l2 z2 (by omega) (by intro h0;rw[h0] at z3;simp at z3) (s.b x hxm) hmb) ?_
   rintro _ h4 ⟨X4,s4,a4,s5,b4,t4,rfl,hs4,hc4⟩
   have m4:=X4.n
   obtain⟨_,_,_,_,hhe,_,_,_,u1,_,u2,u3,u4⟩:=hc4.parts
   cases hhe
   obtain⟨out',h5,hap,hA5,hC5,hG5,hE5⟩:=read4 ap53 (by omega) kept_p (hA.ext X4) (hC.keep kept_p X4.keep) hc4 (by simp[u1,u2,u3,u4]) (by simp[qcentres];omega) (by omega) (hE.trans X4) (by simp)
   have eT:(qcentres ll).take i ++ [qmean (x.map rOf)]=(qcentres ll).take (i+1):=(take_snoc hqx).symm
   rw[eT] at hA5 hC5
   have ex5:(#[s4,a4,s5,b4,t4]:Array Value).extract 1 5 = #[a4,s5,b4,t4]:=rfl
   simp -dsimp (disch:=omega) only[wpS,wpT,Nat.reduceEqDiff,Nat.reduceLeDiff,Nat.reduceAdd,fp55_1,bs53,ba53_53,f8,ex5,hap]
   exact⟨m - 1,by omega,i+1,out',_,by omega,hE5,hA5,hC5,by simp[f0],by simp[f2],by simp,by simp[f6],by simp[f7],by simp⟩
  ·obtain rfl:i=ll.length:=by omega
   rw[←hcl,List.take_length] at hA hC
   simp -dsimp (disch:=omega) only[wpS,wpT]
   exact⟨out,cs,E1.trans hE,by omega,hE.kept (by simp) g1,hA,hC,by simp[f0],by simp[f2],by simp[f3]⟩
 rintro fr hh ⟨out,cs,hE,hn,hg,hA,hC,f0,f2,f3⟩
 have hS:ElSl PRat hh out (qcentres ll):=⟨cs,hA.sl,hC,by rw[hcl];omega⟩
 have hcB:=s.centres
 have hmm:=qmean_bits hcn (by rw[hcl];omega) hcB
 rw[hcl] at hmm
 simp -dsimp (disch:=omega) only[wpS,Nat.reduceEqDiff,f3]
 refine call (mean_ok hS hcn hcB (by rw[hcl];omega)) ?_
 rintro rm h4 ⟨X4,p4⟩
 have m4:=X4.n
 simp -dsimp (disch:=omega) only[wpS,Nat.reduceEqDiff]
 refine call (squares_ok (hS.keep kept_p X4.keep) p4 hcB hmm (by rw[hcl];exact hb2) (by omega)) ?_
 rintro rq h5 ⟨X5,p5⟩
 have m5:=X5.n
 have eN:(ll.length:Int) - 1=((ll.length - 1:Nat):Int):=by omega
 simp -dsimp (disch:=omega) only[wpS,Nat.reduceEqDiff,f0,hlen,eN]
 refine call (rfrom_ok ((ll.length - 1:Nat):Int) ⟨by omega,by omega⟩) ?_
 rintro rf h6 ⟨X6,p6⟩
 have m6:=X6.n
 simp -dsimp (disch:=omega) only[wpS,Nat.reduceEqDiff]
 have hQ:QB (sBits ll.length (mBits (len0 ll) k)) (qsqm (qcentres ll)):=by
  have:=qsqm_bits hcn (by rw[hcl];omega) hcB
  rw[hcl] at this
  exact this
 have p5':PRat h5 rq (qsqm (qcentres ll)):=p5
 refine call (rover_ok (p5'.keep X6.keep) p6 hQ (small_rat (by omega)) hb (nat_rat_ne (by omega))) ?_
 rintro _ h7 ⟨X7,p7⟩
 have m7:=X7.n
 obtain⟨a5,s5,b5,t5,rfl,_,_,_,u1,_,u2,u3,u4⟩:=p7.parts
 have kg:=X7.kept (by omega) (X6.kept (by omega) (X5.kept (by omega) (X4.kept hn hg)))
 simp -dsimp (disch:=omega) only[wpS,wpT,Nat.reduceEqDiff,Nat.reduceLeDiff,Nat.reduceAdd,st51,ld51,f2,kg,u1,u2,u3,u4,tk4']
 exact⟨((((hE.trans X4).trans X5).trans X6).trans X7).put (by omega) _,p7.keep ((Keep.refl _).put kg _)⟩
end Go.Id
