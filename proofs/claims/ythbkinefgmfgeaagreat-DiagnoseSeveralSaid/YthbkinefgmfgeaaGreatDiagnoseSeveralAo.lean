/-
  Contracts: the reference's chapter 35: spreads. Contracts: the reference's chapter 35: Mean, Auto. Contracts: the reference's chapter 35: the variance within, and that of the means. Contracts: package diagnose: Within, Means, Ratio. Contracts: the reference's chapter 35: Within, Means. Contracts: the reference's chapter 35: Effective. Contracts: the reference's chapter 35: Ratio. Contracts: package diagnose: Stuck. Contracts: the reference's Stuck. Contracts of package diagnose and of its reference for lists of shares of any parts. Contracts: what the law's examples use.
-/
import Derived.Test.YthbkinefgmfgeaaGreatDiagnoseSeveralAn
import Derived.Test.YthbkinefgmfgeaaGreatDiagnoseSeveralAl
import Derived.Test.YthbkinefgmfgeaaGreatDiagnoseSeveralAm
set_option linter.unusedVariables false
set_option linter.unusedSimpArgs false
set_option linter.defProp false
set_option linter.deprecated false
/-! Contracts: the reference's chapter 35: spreads. -/
namespace Go.Id
open Go
theorem qprods0 (l:List Rat) (c:Rat):qprods l c 0=l.map fun x=>(x - c)*(x - c):=by
 apply List.ext_getElem?
 intro i
 by_cases hi:i<l.length
 ·rw[qprods_at (by omega),List.getElem?_map,List.getElem?_eq_getElem hi]
  simp only[qpr,Nat.add_zero,Option.map_some]
  rw[getD_of (List.getElem?_eq_getElem hi)]
 ·rw[List.getElem?_eq_none (by rw[qprods_len];omega),List.getElem?_eq_none (by simp;omega)]
theorem qauto0 (l:List Rat) (c:Rat):qauto l c 0=qsq l c / qlen l:=by rw[qauto,qprods0];rfl
def qspread (l:List Rat):Rat:=qsqm l / (((l.length - 1:Nat):Int):Rat)
theorem spread_eq (s n m:Rat) (hn:n≠0):s / n*(n / m)=s / m:=by
 rw[Rat.div_def,Rat.div_def,Rat.div_def,Rat.mul_assoc,←Rat.mul_assoc n⁻¹,Rat.inv_mul_cancel n hn,Rat.one_mul]
theorem qsum_div (l:List Rat) (y:Rat) : ∀i,i≤l.length→qsum ((l.take i).map fun x=>x / y)=qsum (l.take i) / y
 | 0,_=>by simp[qsum,Rat.div_def]
 | i+1,hi=>by
  obtain⟨q,hq⟩ : ∃q,l[i]?=some q:=⟨_,List.getElem?_eq_getElem (by omega)⟩
  rw[take_snoc hq,List.map_append,List.map_cons,List.map_nil,qsum_snoc,qsum_snoc,qsum_div l y i (by omega),Rat.div_def,Rat.div_def,Rat.div_def,Rat.add_mul]
theorem qsum_divAll (l:List Rat) (y:Rat):qsum (l.map fun x=>x / y)=qsum l / y:=by
 have:=qsum_div l y l.length (Nat.le_refl _)
 rwa [List.take_length] at this
theorem div_div' (x y z:Rat):x / y / z=x / (z*y):=by
 rw[Rat.div_def,Rat.div_def,Rat.div_def,Rat.inv_mul_rev,Rat.mul_assoc]
theorem nat_mul_rat (a b:Nat):(((a*b:Nat):Int):Rat)=((a:Int):Rat)*((b:Int):Rat):=by simp
set_option maxHeartbeats 2000000 in
theorem rfspread_ok {h:IH} {v:Value} {l:List Rat} (hv:ElSl RRat h v l) (h2:2≤l.length) {k:Nat} (hk : ∀q∈l,QB k q) (hb:aBits l.length k+17<16000000) :
  WV Proofs.Tryz.prog (.func (.func 112) #[] #[]) [v] h fun r h'=>Ext h h'∧RRat h' r (qspread l):=by
 obtain⟨cs0,hs0,_,hlen⟩:=id hv
 have h0:l ≠ []:=by intro h0;rw[h0] at h2;simp at h2
 refine enter (nt:=12) (rs:=[.cell 2 91]) Proofs.Tryz.func112 rfl rfl rfl (by simp) ?_
 simp -dsimp (disch:=omega) only[wpS,Nat.reduceEqDiff,zc91]
 have E1:Ext h (h.new (.cells ZR 0 none)):=(Ext.refl h).new _
 have g1:(h.new (.cells ZR 0 none)).ext.get h.n=some (.cells ZR 0 none):=by simp (disch:=first|omega|(simp only[new_n,put_n];omega)|(repeat first|rw[new_n]|rw[put_n])) only[get_new_same]
 have hab:aBits l.length k<16000000:=by omega
 refine call (rfauto_ok (lag:=0) (hv.keep kept_q E1.keep) h0 (by omega) hk hab) ?_
 rintro r1 h1 ⟨X1,p1⟩
 have m1:=X1.n
 simp only[new_n] at m1
 have eN:(l.length:Int) - 1=((l.length - 1:Nat):Int):=by omega
 simp -dsimp (disch:=omega) only[wpS,Nat.reduceEqDiff,hs0.len sl111,eN]
 have d0:((l.length - 1:Nat):Int)≠0:=by omega
 refine call (quick_ok (l.length:Int) ((l.length - 1:Nat):Int) ⟨by omega,by omega⟩ ⟨by omega,by omega⟩ d0) ?_
 rintro r2 h2' ⟨X2,p2⟩
 have m2:=X2.n
 simp -dsimp (disch:=omega) only[wpS,Nat.reduceEqDiff]
 have haB:=qauto_bits (k:=0) hk (qmean_bits h0 hlen hk) hlen h0
 have e17:2 ^ 17=131072:=by decide
 have hqB:QB 17 (Rat.divInt (l.length:Int) ((l.length - 1:Nat):Int)):=QB.divInt d0 (by rw[Int.natAbs_natCast,e17];omega) (by rw[Int.natAbs_natCast,e17];omega)
 refine call (qtimes_ok (p1.keep X2.keep) p2 haB hqB hb) ?_
 rintro r3 h3 ⟨X3,p3⟩
 have m3:=X3.n
 have eS:qauto l (qmean l) 0*Rat.divInt (l.length:Int) ((l.length - 1:Nat):Int)=qspread l:=by
  rw[qauto0,Rat.divInt_eq_div]
  exact spread_eq _ _ _ (qlen_ne h0)
 rw[eS] at p3
 obtain⟨a3,s3,b3,t3,rfl,_,_,_,o1,_,o2,o3,o4⟩:=p3.parts
 have kg:=X3.kept (by omega) (X2.kept (by omega) (X1.kept (by simp) g1))
 simp -dsimp (disch:=omega) only[wpS,wpT,Nat.reduceEqDiff,Nat.reduceLeDiff,Nat.reduceAdd,st91,ld91,kg,o1,o2,o3,o4,tk4']
 exact⟨(((E1.trans X1).trans X2).trans X3).put (by omega) _,p3.keep ((Keep.refl _).put kg _)⟩
end Go.Id

/-! Contracts: the reference's chapter 35: Mean, Auto. -/
namespace Go.Id
open Go
set_option maxHeartbeats 1000000 in
theorem rfMean_ok {h:IH} {v:Value} {l:List (Nat×Nat)} (hv:ShSl h v l) {k:Nat} (hk:allOk l → ∀q∈l.map rOf,QB k q) (hb:l.length≤200→mBits l.length k<16000000) :
  WV Proofs.Tryz.prog (.func (.func 28) #[] #[]) [v] h fun r h'=>Ext h h'∧r=meanRes l:=by
 have her:=chErr_range l
 refine enter (nt:=17) (rs:=[.cell 2 30,.tmp 3]) Proofs.Tryz.func28 rfl rfl rfl (by simp) ?_
 simp -dsimp (disch:=omega) only[wpS,Nat.reduceEqDiff,zc30]
 have E1:Ext h (h.new (.cells Z16 0 none)):=(Ext.refl h).new _
 have g1:(h.new (.cells Z16 0 none)).ext.get h.n=some (.cells Z16 0 none):=by simp (disch:=first|omega|(simp only[new_n,put_n];omega)|(repeat first|rw[new_n]|rw[put_n])) only[get_new_same]
 refine call (rfright_ok (hv.keep E1.keep)) ?_
 rintro _ h1 ⟨X1,rfl⟩
 have m1:=X1.n
 simp only[new_n] at m1
 have k1:=X1.kept (by simp) g1
 unfold meanRes
 by_cases he:chErr l=0
 ·rw[if_pos he,he]
  obtain⟨e1,e2,e3⟩:=chErr_iff.1 he
  simp -dsimp (disch:=omega) only[wpS,wpT,Nat.reduceEqDiff]
  refine call (rfvalues_ok (hv.keep (E1.trans X1).keep) e2 (by omega)) ?_
  rintro s h2 ⟨X2,hs⟩
  have m2:=X2.n
  simp -dsimp (disch:=omega) only[wpS,Nat.reduceEqDiff]
  refine call (rfaverage_ok hs (by simpa using e3) (hk e2) (by rw[List.length_map];exact hb e1)) ?_
  rintro r3 h3 ⟨X3,p3⟩
  have m3:=X3.n
  simp -dsimp (disch:=omega) only[wpS,Nat.reduceEqDiff]
  refine call (refout_ok p3) ?_
  rintro _ h4 ⟨X4,rfl⟩
  have m4:=X4.n
  have kg:=X4.kept (by omega) (X3.kept (by omega) (X2.kept (by omega) k1))
  obtain⟨n,d,e,hf⟩:=toldV_form (qmean (l.map rOf))
  have hf':=hf
  unfold toldV at hf'
  rw[hf',hf]
  simp -dsimp (disch:=omega) only[wpS,wpT,Nat.reduceEqDiff,Nat.reduceLeDiff,Nat.reduceAdd,st30,ld30,kg,shV_cells,shC_len,shC_all,sh_sp3,sh_take]
  exact⟨((((E1.trans X1).trans X2).trans X3).trans X4).put (by omega) _,rfl⟩
 ·rw[if_neg he]
  have he':(chErr l == 0)=false:=by simpa using he
  simp -dsimp (disch:=omega) only[wpS,wpT,Nat.reduceEqDiff,Nat.reduceLeDiff,Nat.reduceAdd,bv30,st30,ld30,k1,sh_tz]
  exact⟨(E1.trans X1).put (by omega) _,by rw[sh_zeroV]⟩
set_option maxHeartbeats 1000000 in
theorem rfAuto_ok {h:IH} {v:Value} {l:List (Nat×Nat)} {lag:Int} (hv:ShSl h v l) {k:Nat} (hk:allOk l → ∀q∈l.map rOf,QB k q) (hb:l.length≤200→aBits l.length k<16000000) :
  WV Proofs.Tryz.prog (.func (.func 31) #[] #[]) [v,KI lag] h fun r h'=>Ext h h'∧r=autoRes l lag:=by
 have her:=chErr_range l
 refine enter (nt:=30) (rs:=[.cell 4 30,.tmp 5]) Proofs.Tryz.func31 rfl rfl rfl (by simp) ?_
 simp -dsimp (disch:=omega) only[wpS,Nat.reduceEqDiff,Nat.reduceAdd,zc30]
 have E1:Ext h (h.new (.cells Z16 0 none)):=(Ext.refl h).new _
 have g1:(h.new (.cells Z16 0 none)).ext.get h.n=some (.cells Z16 0 none):=by simp (disch:=first|omega|(simp only[new_n,put_n];omega)|(repeat first|rw[new_n]|rw[put_n])) only[get_new_same]
 refine call (rfright_ok (hv.keep E1.keep)) ?_
 rintro _ h1 ⟨X1,rfl⟩
 have m1:=X1.n
 simp only[new_n] at m1
 have k1:=X1.kept (by simp) g1
 unfold autoRes
 by_cases he:chErr l=0
 ·rw[if_pos he,he]
  obtain⟨e1,e2,e3⟩:=chErr_iff.1 he
  by_cases hl:0≤lag∧lag<l.length
  ·rw[if_pos hl]
   obtain⟨j,rfl⟩:=Int.eq_ofNat_of_zero_le hl.1
   have hj:j<l.length:=by omega
   have c1:decide ((j:Int)<0)=false:=decide_eq_false (by omega)
   have c2:decide ((l.length:Int)≤(j:Int))=false:=decide_eq_false (by omega)
   simp -dsimp (disch:=omega) only[wpS,wpT,Nat.reduceEqDiff,hv.1.len sl25,c1]
   refine call (rfvalues_ok (hv.keep (E1.trans X1).keep) e2 (by omega)) ?_
   rintro s h2 ⟨X2,hs⟩
   have m2:=X2.n
   simp -dsimp (disch:=omega) only[wpS,Nat.reduceEqDiff]
   refine call (rfauto_ok hs (by simpa using e3) (by omega) (hk e2) (by rw[List.length_map];exact hb e1)) ?_
   rintro r3 h3 ⟨X3,p3⟩
   have m3:=X3.n
   simp -dsimp (disch:=omega) only[wpS,Nat.reduceEqDiff]
   refine call (refout_ok p3) ?_
   rintro _ h4 ⟨X4,rfl⟩
   have m4:=X4.n
   have kg:=X4.kept (by omega) (X3.kept (by omega) (X2.kept (by omega) k1))
   rw[Int.toNat_natCast]
   obtain⟨n,d,e,hf⟩:=toldV_form (qauto (l.map rOf) (qmean (l.map rOf)) j)
   have hf':=hf
   unfold toldV at hf'
   rw[hf',hf]
   simp -dsimp (disch:=omega) only[wpS,wpT,Nat.reduceEqDiff,Nat.reduceLeDiff,Nat.reduceAdd,st30,ld30,kg,shV_cells,shC_len,shC_all,sh_sp3,sh_take]
   exact⟨((((E1.trans X1).trans X2).trans X3).trans X4).put (by omega) _,rfl⟩
  ·rw[if_neg hl]
   by_cases hneg:lag<0
   ·have c1:decide (lag<0)=true:=decide_eq_true hneg
    simp -dsimp (disch:=omega) only[wpS,wpT,Nat.reduceEqDiff,Nat.reduceLeDiff,Nat.reduceAdd,bv30,st30,ld30,c1,k1,sh_tz]
    exact⟨(E1.trans X1).put (by omega) _,by rw[sh_zeroV]⟩
   ·have c1:decide (lag<0)=false:=decide_eq_false hneg
    have c2:decide ((l.length:Int)≤lag)=true:=decide_eq_true (by omega)
    simp -dsimp (disch:=omega) only[wpS,wpT,Nat.reduceEqDiff,Nat.reduceLeDiff,Nat.reduceAdd,bv30,st30,ld30,hv.1.len sl25,c1,k1,sh_tz]
    exact⟨(E1.trans X1).put (by omega) _,by rw[sh_zeroV]⟩
 ·rw[if_neg he]
  have he':(chErr l == 0)=false:=by simpa using he
  simp -dsimp (disch:=omega) only[wpS,wpT,Nat.reduceEqDiff,Nat.reduceLeDiff,Nat.reduceAdd,bv30,st30,ld30,k1,sh_tz]
  exact⟨(E1.trans X1).put (by omega) _,by rw[sh_zeroV]⟩
end Go.Id

/-! Contracts: the reference's chapter 35: the variance within, and that of the means. -/
namespace Go.Id
open Go
theorem inner_eq {ll:List (List (Nat×Nat))} {k:Nat} (s:SvOk ll k):qmean (ll.map fun x=>qspread (x.map rOf))=qwithin ll:=by
 obtain⟨h1,h2,h⟩:=sv_zero s.e
 have e1:(ll.map fun x=>qspread (x.map rOf))=(ll.map fun x=>qsqm (x.map rOf)).map fun q=>q / (((len0 ll - 1:Nat):Int):Rat):=by
  rw[List.map_map]
  apply List.map_congr_left
  intro x hx
  have:=(h x hx).2.2.2
  simp only[Function.comp,qspread,List.length_map,this]
 have hl:qlen (ll.map fun x=>qspread (x.map rOf))=((ll.length:Int):Rat):=by
  show(((ll.map fun x=>qspread (x.map rOf)).length:Int):Rat)=_
  rw[List.length_map]
 rw[qmean,hl,e1,qsum_divAll,div_div',qwithin,nat_mul_rat]
abbrev iBits (m n k:Nat):Nat:=m*(aBits n k+17+1)+17
abbrev oBits (m n k:Nat):Nat:=aBits m (mBits n k)+17
theorem spread_bits {l:List Rat} {k:Nat} (h2:2≤l.length) (hl:l.length≤100000) (hk : ∀q∈l,QB k q):QB (aBits l.length k+17) (qspread l):=by
 have h0:l ≠ []:=by intro h0;rw[h0] at h2;simp at h2
 have haB:=qauto_bits (k:=0) hk (qmean_bits h0 hl hk) hl h0
 have e17:2 ^ 17=131072:=by decide
 have d0:((l.length - 1:Nat):Int)≠0:=by omega
 have hqB:QB 17 (Rat.divInt (l.length:Int) ((l.length - 1:Nat):Int)):=QB.divInt d0 (by rw[Int.natAbs_natCast,e17];omega) (by rw[Int.natAbs_natCast,e17];omega)
 have:=haB.mul hqB
 rw[qauto0,Rat.divInt_eq_div,spread_eq _ _ _ (qlen_ne h0)] at this
 exact this
set_option maxHeartbeats 4000000 in
theorem rfinner_ok {h:IH} {v:Value} {ll:List (List (Nat×Nat))} {k:Nat} (hv:ShLs h v ll) (s:SvOk ll k) (hb:iBits ll.length (len0 ll) k<16000000) :
  WV Proofs.Tryz.prog (.func (.func 56) #[] #[]) [v] h fun r h'=>Ext h h'∧RRat h' r (qwithin ll):=by
 have hb':ll.length*(aBits (len0 ll) k+17+1)+17<16000000:=hb
 obtain⟨h1,h2,hx⟩:=sv_zero s.e
 obtain⟨_,_,hlen⟩:=hv.co
 have hs1:1*(aBits (len0 ll) k+17+1)≤ll.length*(aBits (len0 ll) k+17+1):=Nat.mul_le_mul_right _ (by omega)
 obtain⟨cl,hcl0⟩ : ∃cl,cl=ll.map fun x=>qspread (x.map rOf):=⟨_,rfl⟩
 have hcl:cl.length=ll.length:=by rw[hcl0];simp
 have hcn:cl ≠ []:=by intro h0;rw[h0] at hcl;simp at hcl;omega
 have hcB : ∀q∈cl,QB (aBits (len0 ll) k+17) q:=by
  intro q hq
  rw[hcl0] at hq
  obtain⟨x,hxm,rfl⟩:=List.mem_map.1 hq
  obtain⟨z1,z2,z3,z4⟩:=hx x hxm
  have:=spread_bits (l:=x.map rOf) (by simpa using z3) (by simp;omega) (s.b x hxm)
  rw[List.length_map,z4] at this
  exact this
 refine enter (nt:=22) (rs:=[.cell 2 91]) Proofs.Tryz.func56 rfl rfl rfl (by simp) ?_
 simp -dsimp (disch:=omega) only[wpS,zc91]
 have E1:Ext h (h.new (.cells ZR 0 none)):=(Ext.refl h).new _
 have g1:(h.new (.cells ZR 0 none)).ext.get h.n=some (.cells ZR 0 none):=by simp (disch:=first|omega|(simp only[new_n,put_n];omega)|(repeat first|rw[new_n]|rw[put_n])) only[get_new_same]
 refine loop_cut (fun fr hh => ∃out cs,Ext h hh∧h.n<hh.n∧hh.ext.get h.n=some (.cells ZR 0 none)∧Acc hh (h.n+1) 4 out cl.length cs∧ElCs RRat hh cl cs∧fget fr 2=some (ptr (2*h.n) 0)∧fget fr 3=some out) ?_ ?_
 ·refine loop (fun m fr hh => ∃(i:Nat) (out:Value) (cs:List Value),i+m=ll.length∧Ext (h.new (.cells ZR 0 none)) hh∧Acc hh (h.n+1) 4 out (cl.take i).length cs∧ElCs RRat hh (cl.take i) cs∧fget fr 0=some v∧fget fr 2=some (ptr (2*h.n) 0)∧fget fr 3=some out∧fget fr 4=some (KN i)) ll.length
   ⟨0,.slice none 0 0,[],by omega,Ext.refl _,Acc.nil _ _ (by omega),by simp[ElCs],by simp,by simp,by simp,by simp⟩ ?_
  rintro m fr hh ⟨i,out,cs,him,hE,hA,hC,f0,f2,f3,f4⟩
  have mE:=hE.n
  simp only[new_n] at mE
  simp -dsimp (disch:=omega) only[wpS,Nat.reduceEqDiff,f0,f4,hlen]
  refine bq_intro ?_ ?_<;>intro hc<;>simp only[decide_eq_true_eq,decide_eq_false_iff_not] at hc
  ·have hi:i<ll.length:=by omega
   obtain⟨x,hxx⟩ : ∃x,ll[i]?=some x:=⟨_,List.getElem?_eq_getElem hi⟩
   have hxm:=List.mem_of_getElem? hxx
   obtain⟨z1,z2,z3,z4⟩:=hx x hxm
   obtain⟨w,l1,l2,l3⟩:=hv.at (E1.trans hE).keep hxx
   have hqx:cl[i]?=some (qspread (x.map rOf)):=by rw[hcl0];simp[hxx]
   simp -dsimp (disch:=omega) only[wpS,wpT,Nat.reduceEqDiff,f0,f3,f4,l1,l3]
   refine call (rfvalues_ok l2 z2 (by omega)) ?_
   rintro sv h4 ⟨X4,hs4⟩
   have m4:=X4.n
   simp -dsimp (disch:=omega) only[wpS,Nat.reduceEqDiff]
   refine call (rfspread_ok hs4 (by simpa using z3) (s.b x hxm) (by rw[List.length_map,z4];omega)) ?_
   rintro r5 h5 ⟨X5,hc4⟩
   have m5:=X5.n
   obtain⟨a4,s5,b4,t4,rfl,o⟩:=hc4.parts4
   have X45:=X4.trans X5
   obtain⟨out',h6,hap,hA5,hC5,hG5,hE5⟩:=read4 ap111 (by omega) kept_q (hA.ext X45) (hC.keep kept_q X45.keep) hc4 o (by simp;omega) (by omega) (hE.trans X45) (by simp)
   rw[show cl.take i ++ [qspread (x.map rOf)]=cl.take (i+1) from(take_snoc hqx).symm] at hA5 hC5
   simp -dsimp (disch:=omega) only[wpS,wpT,Nat.reduceEqDiff,Nat.reduceLeDiff,Nat.reduceAdd,bs111,ba111_111,f4,hap]
   exact⟨m - 1,by omega,i+1,out',_,by omega,hE5,hA5,hC5,by simp[f0],by simp[f2],by simp,by simp⟩
  ·obtain rfl:i=ll.length:=by omega
   rw[←hcl,List.take_length] at hA hC
   simp -dsimp (disch:=omega) only[wpS,wpT]
   exact⟨out,cs,E1.trans hE,by omega,hE.kept (by simp) g1,hA,hC,by simp[f2],by simp[f3]⟩
 rintro fr hh ⟨out,cs,hE,hn,hg,hA,hC,f2,f3⟩
 have hS:ElSl RRat hh out cl:=⟨cs,hA.sl,hC,by rw[hcl];omega⟩
 simp -dsimp (disch:=omega) only[wpS,f3]
 refine call (rfaverage_ok hS hcn hcB (by rw[hcl];exact hb')) ?_
 rintro r7 h7 ⟨X7,p7⟩
 have m7:=X7.n
 rw[hcl0,inner_eq s] at p7
 obtain⟨a5,s5,b5,t5,rfl,_,_,_,u1,_,u2,u3,u4⟩:=p7.parts
 have kg:=X7.kept hn hg
 simp -dsimp (disch:=omega) only[wpS,wpT,Nat.reduceEqDiff,Nat.reduceLeDiff,Nat.reduceAdd,st91,ld91,f2,kg,u1,u2,u3,u4,tk4']
 exact⟨(hE.trans X7).put (by omega) _,p7.keep ((Keep.refl _).put kg _)⟩
set_option maxHeartbeats 4000000 in
theorem rfouter_ok {h:IH} {v:Value} {ll:List (List (Nat×Nat))} {k:Nat} (hv:ShLs h v ll) (s:SvOk ll k) (hb:oBits ll.length (len0 ll) k<16000000) :
  WV Proofs.Tryz.prog (.func (.func 58) #[] #[]) [v] h fun r h'=>Ext h h'∧RRat h' r (qmeansV ll):=by
 have hb':aBits ll.length (mBits (len0 ll) k)+17<16000000:=hb
 obtain⟨h1,h2,hx⟩:=sv_zero s.e
 obtain⟨_,_,hlen⟩:=hv.co
 have hmA:=mle_a ll.length (mBits (len0 ll) k)
 have hmm:mBits (len0 ll) k≤mBits ll.length (mBits (len0 ll) k):=by
  have:1*(mBits (len0 ll) k+1)≤ll.length*(mBits (len0 ll) k+1):=Nat.mul_le_mul_right _ (by omega)
  show mBits (len0 ll) k≤ll.length*(mBits (len0 ll) k+1)+17
  omega
 have hcl:(qcentres ll).length=ll.length:=by simp[qcentres]
 have hcn:qcentres ll ≠ []:=by intro h0;rw[h0] at hcl;simp at hcl;omega
 refine enter (nt:=22) (rs:=[.cell 2 91]) Proofs.Tryz.func58 rfl rfl rfl (by simp) ?_
 simp -dsimp (disch:=omega) only[wpS,zc91]
 have E1:Ext h (h.new (.cells ZR 0 none)):=(Ext.refl h).new _
 have g1:(h.new (.cells ZR 0 none)).ext.get h.n=some (.cells ZR 0 none):=by simp (disch:=first|omega|(simp only[new_n,put_n];omega)|(repeat first|rw[new_n]|rw[put_n])) only[get_new_same]
 refine loop_cut (fun fr hh => ∃out cs,Ext h hh∧h.n<hh.n∧hh.ext.get h.n=some (.cells ZR 0 none)∧Acc hh (h.n+1) 4 out (qcentres ll).length cs∧ElCs RRat hh (qcentres ll) cs∧fget fr 2=some (ptr (2*h.n) 0)∧fget fr 3=some out) ?_ ?_
 ·refine loop (fun m fr hh => ∃(i:Nat) (out:Value) (cs:List Value),i+m=ll.length∧Ext (h.new (.cells ZR 0 none)) hh∧Acc hh (h.n+1) 4 out ((qcentres ll).take i).length cs∧ElCs RRat hh ((qcentres ll).take i) cs∧fget fr 0=some v∧fget fr 2=some (ptr (2*h.n) 0)∧fget fr 3=some out∧fget fr 4=some (KN i)) ll.length
   ⟨0,.slice none 0 0,[],by omega,Ext.refl _,Acc.nil _ _ (by omega),by simp[ElCs],by simp,by simp,by simp,by simp⟩ ?_
  rintro m fr hh ⟨i,out,cs,him,hE,hA,hC,f0,f2,f3,f4⟩
  have mE:=hE.n
  simp only[new_n] at mE
  simp -dsimp (disch:=omega) only[wpS,Nat.reduceEqDiff,f0,f4,hlen]
  refine bq_intro ?_ ?_<;>intro hc<;>simp only[decide_eq_true_eq,decide_eq_false_iff_not] at hc
  ·have hi:i<ll.length:=by omega
   obtain⟨x,hxx⟩ : ∃x,ll[i]?=some x:=⟨_,List.getElem?_eq_getElem hi⟩
   have hxm:=List.mem_of_getElem? hxx
   obtain⟨z1,z2,z3,z4⟩:=hx x hxm
   obtain⟨w,l1,l2,l3⟩:=hv.at (E1.trans hE).keep hxx
   have hqx:(qcentres ll)[i]?=some (qmean (x.map rOf)):=by simp[qcentres,hxx]
   have hmb:mBits (x.map rOf).length k<16000000:=by rw[List.length_map,z4];omega
   simp -dsimp (disch:=omega) only[wpS,wpT,Nat.reduceEqDiff,f0,f3,f4,l1,l3]
   refine call (rfvalues_ok l2 z2 (by omega)) ?_
   rintro sv h4 ⟨X4,hs4⟩
   have m4:=X4.n
   simp -dsimp (disch:=omega) only[wpS,Nat.reduceEqDiff]
   refine call (rfaverage_ok hs4 (by intro h0;simp at h0;rw[h0] at z3;simp at z3) (s.b x hxm) hmb) ?_
   rintro r5 h5 ⟨X5,hc4⟩
   have m5:=X5.n
   obtain⟨a4,s5,b4,t4,rfl,o⟩:=hc4.parts4
   have X45:=X4.trans X5
   obtain⟨out',h6,hap,hA5,hC5,hG5,hE5⟩:=read4 ap111 (by omega) kept_q (hA.ext X45) (hC.keep kept_q X45.keep) hc4 o (by simp;omega) (by omega) (hE.trans X45) (by simp)
   rw[show(qcentres ll).take i ++ [qmean (x.map rOf)]=(qcentres ll).take (i+1) from(take_snoc hqx).symm] at hA5 hC5
   simp -dsimp (disch:=omega) only[wpS,wpT,Nat.reduceEqDiff,Nat.reduceLeDiff,Nat.reduceAdd,bs111,ba111_111,f4,hap]
   exact⟨m - 1,by omega,i+1,out',_,by omega,hE5,hA5,hC5,by simp[f0],by simp[f2],by simp,by simp⟩
  ·obtain rfl:i=ll.length:=by omega
   rw[←hcl,List.take_length] at hA hC
   simp -dsimp (disch:=omega) only[wpS,wpT]
   exact⟨out,cs,E1.trans hE,by omega,hE.kept (by simp) g1,hA,hC,by simp[f2],by simp[f3]⟩
 rintro fr hh ⟨out,cs,hE,hn,hg,hA,hC,f2,f3⟩
 have hS:ElSl RRat hh out (qcentres ll):=⟨cs,hA.sl,hC,by rw[hcl];omega⟩
 simp -dsimp (disch:=omega) only[wpS,f3]
 refine call (rfspread_ok hS (by rw[hcl];omega) s.centres (by rw[hcl];exact hb')) ?_
 rintro r7 h7 ⟨X7,p7⟩
 have m7:=X7.n
 have e7:qspread (qcentres ll)=qmeansV ll:=by rw[qspread,hcl];rfl
 rw[e7] at p7
 obtain⟨a5,s5,b5,t5,rfl,_,_,_,u1,_,u2,u3,u4⟩:=p7.parts
 have kg:=X7.kept hn hg
 simp -dsimp (disch:=omega) only[wpS,wpT,Nat.reduceEqDiff,Nat.reduceLeDiff,Nat.reduceAdd,st91,ld91,f2,kg,u1,u2,u3,u4,tk4']
 exact⟨(hE.trans X7).put (by omega) _,p7.keep ((Keep.refl _).put kg _)⟩
end Go.Id

/-! Contracts: package diagnose: Within, Means, Ratio. -/
namespace Go.Id
open Go
def qratioV (ll:List (List (Nat×Nat))):Rat:=((((len0 ll - 1:Nat):Int):Rat) / (((len0 ll:Nat):Int):Rat)*qwithin ll+qmeansV ll) / qwithin ll
noncomputable def withinRes (ll:List (List (Nat×Nat))):Value:=if svErr ll=0 then toldV (qwithin ll) else errV (svErr ll)
noncomputable def meansRes (ll:List (List (Nat×Nat))):Value:=if svErr ll=0 then toldV (qmeansV ll) else errV (svErr ll)
noncomputable def ratioRes (ll:List (List (Nat×Nat))):Value:=if svErr ll=0 then (if qwithin ll=0 then errV 7 else toldV (qratioV ll)) else errV (svErr ll)
abbrev rBits (m n k:Nat):Nat:=17+17+wBits m n k+vBits m n k+1+wBits m n k
set_option maxHeartbeats 1000000 in
theorem dgWithin_ok {h:IH} {v:Value} {ll:List (List (Nat×Nat))} {k:Nat} (hv:ShLs h v ll) (hk:svErr ll=0→SvOk ll k∧rBits ll.length (len0 ll) k<16000000) :
  WV Proofs.Tryz.prog (.func (.func 13) #[] #[]) [v] h fun r h'=>Ext h h'∧r=withinRes ll:=by
 refine enter (nt:=16) (rs:=[.cell 2 30,.tmp 3]) Proofs.Tryz.func13 rfl rfl rfl (by simp) ?_
 simp -dsimp (disch:=omega) only[wpS,Nat.reduceEqDiff,zc30]
 have E1:Ext h (h.new (.cells Z16 0 none)):=(Ext.refl h).new _
 have g1:(h.new (.cells Z16 0 none)).ext.get h.n=some (.cells Z16 0 none):=by simp (disch:=first|omega|(simp only[new_n,put_n];omega)|(repeat first|rw[new_n]|rw[put_n])) only[get_new_same]
 refine call (several_ok (hv.keep E1.keep)) ?_
 rintro _ h1 ⟨X1,rfl⟩
 have m1:=X1.n
 simp only[new_n] at m1
 have k1:=X1.kept (by simp) g1
 unfold withinRes
 by_cases he:svErr ll=0
 ·obtain⟨s,hb⟩:=hk he
  have hb:17+17+wBits ll.length (len0 ll) k+vBits ll.length (len0 ll) k+1+wBits ll.length (len0 ll) k<16000000:=hb
  rw[if_pos he,he]
  simp -dsimp (disch:=omega) only[wpS,wpT,Nat.reduceEqDiff]
  refine call (dgwithin_ok (hv.keep (E1.trans X1).keep) s (by omega)) ?_
  rintro r2 h2 ⟨X2,p2⟩
  have m2:=X2.n
  simp -dsimp (disch:=omega) only[wpS,Nat.reduceEqDiff]
  refine call (rtold_ok p2) ?_
  rintro _ h4 ⟨X4,rfl⟩
  have kg:=X4.kept (by omega) (X2.kept (by omega) k1)
  have m4:=X4.n
  obtain⟨n,d,e,hf⟩:=toldV_form (qwithin ll)
  have hf':=hf
  unfold toldV at hf'
  rw[hf',hf]
  simp -dsimp (disch:=omega) only[wpS,wpT,Nat.reduceEqDiff,Nat.reduceLeDiff,Nat.reduceAdd,st30,ld30,kg,shV_cells,shC_len,shC_all,sh_sp3,sh_take]
  exact⟨(((E1.trans X1).trans X2).trans X4).put (by omega) _,rfl⟩
 ·rw[if_neg he]
  have he':(svErr ll == 0)=false:=by simpa using he
  simp -dsimp (disch:=omega) only[wpS,wpT,Nat.reduceEqDiff,Nat.reduceLeDiff,Nat.reduceAdd,bv30,st30,ld30,k1,sh_tz]
  exact⟨(E1.trans X1).put (by omega) _,by rw[sh_zeroV]⟩
set_option maxHeartbeats 1000000 in
theorem dgMeans_ok {h:IH} {v:Value} {ll:List (List (Nat×Nat))} {k:Nat} (hv:ShLs h v ll) (hk:svErr ll=0→SvOk ll k∧rBits ll.length (len0 ll) k<16000000) :
  WV Proofs.Tryz.prog (.func (.func 15) #[] #[]) [v] h fun r h'=>Ext h h'∧r=meansRes ll:=by
 refine enter (nt:=16) (rs:=[.cell 2 30,.tmp 3]) Proofs.Tryz.func15 rfl rfl rfl (by simp) ?_
 simp -dsimp (disch:=omega) only[wpS,Nat.reduceEqDiff,zc30]
 have E1:Ext h (h.new (.cells Z16 0 none)):=(Ext.refl h).new _
 have g1:(h.new (.cells Z16 0 none)).ext.get h.n=some (.cells Z16 0 none):=by simp (disch:=first|omega|(simp only[new_n,put_n];omega)|(repeat first|rw[new_n]|rw[put_n])) only[get_new_same]
 refine call (several_ok (hv.keep E1.keep)) ?_
 rintro _ h1 ⟨X1,rfl⟩
 have m1:=X1.n
 simp only[new_n] at m1
 have k1:=X1.kept (by simp) g1
 unfold meansRes
 by_cases he:svErr ll=0
 ·obtain⟨s,hb⟩:=hk he
  have hb:17+17+wBits ll.length (len0 ll) k+vBits ll.length (len0 ll) k+1+wBits ll.length (len0 ll) k<16000000:=hb
  rw[if_pos he,he]
  simp -dsimp (disch:=omega) only[wpS,wpT,Nat.reduceEqDiff]
  refine call (dgmeans_ok (hv.keep (E1.trans X1).keep) s (by omega)) ?_
  rintro r2 h2 ⟨X2,p2⟩
  have m2:=X2.n
  simp -dsimp (disch:=omega) only[wpS,Nat.reduceEqDiff]
  refine call (rtold_ok p2) ?_
  rintro _ h4 ⟨X4,rfl⟩
  have kg:=X4.kept (by omega) (X2.kept (by omega) k1)
  have m4:=X4.n
  obtain⟨n,d,e,hf⟩:=toldV_form (qmeansV ll)
  have hf':=hf
  unfold toldV at hf'
  rw[hf',hf]
  simp -dsimp (disch:=omega) only[wpS,wpT,Nat.reduceEqDiff,Nat.reduceLeDiff,Nat.reduceAdd,st30,ld30,kg,shV_cells,shC_len,shC_all,sh_sp3,sh_take]
  exact⟨(((E1.trans X1).trans X2).trans X4).put (by omega) _,rfl⟩
 ·rw[if_neg he]
  have he':(svErr ll == 0)=false:=by simpa using he
  simp -dsimp (disch:=omega) only[wpS,wpT,Nat.reduceEqDiff,Nat.reduceLeDiff,Nat.reduceAdd,bv30,st30,ld30,k1,sh_tz]
  exact⟨(E1.trans X1).put (by omega) _,by rw[sh_zeroV]⟩
set_option maxHeartbeats 4000000 in
theorem dgRatio_ok {h:IH} {v:Value} {ll:List (List (Nat×Nat))} {k:Nat} (hv:ShLs h v ll) (hk:svErr ll=0→SvOk ll k∧rBits ll.length (len0 ll) k<16000000) :
  WV Proofs.Tryz.prog (.func (.func 17) #[] #[]) [v] h fun r h'=>Ext h h'∧r=ratioRes ll:=by
 refine enter (nt:=45) (rs:=[.cell 2 30,.tmp 3]) Proofs.Tryz.func17 rfl rfl rfl (by simp) ?_
 simp -dsimp (disch:=omega) only[wpS,Nat.reduceEqDiff,zc30]
 have E1:Ext h (h.new (.cells Z16 0 none)):=(Ext.refl h).new _
 have g1:(h.new (.cells Z16 0 none)).ext.get h.n=some (.cells Z16 0 none):=by simp (disch:=first|omega|(simp only[new_n,put_n];omega)|(repeat first|rw[new_n]|rw[put_n])) only[get_new_same]
 refine call (several_ok (hv.keep E1.keep)) ?_
 rintro _ h1 ⟨X1,rfl⟩
 have m1:=X1.n
 simp only[new_n] at m1
 have k1:=X1.kept (by simp) g1
 unfold ratioRes
 by_cases he:svErr ll=0
 case neg =>
  rw[if_neg he]
  have he':(svErr ll == 0)=false:=by simpa using he
  simp -dsimp (disch:=omega) only[wpS,wpT,Nat.reduceEqDiff,Nat.reduceLeDiff,Nat.reduceAdd,bv30,st30,ld30,k1,sh_tz]
  exact⟨(E1.trans X1).put (by omega) _,by rw[sh_zeroV]⟩
 obtain⟨s,hb⟩:=hk he
 have hb:17+17+wBits ll.length (len0 ll) k+vBits ll.length (len0 ll) k+1+wBits ll.length (len0 ll) k<16000000:=hb
 obtain⟨l1,l2,hx⟩:=sv_zero he
 obtain⟨x0,hx0,hxm0,hl0⟩:=len0_at l1
 obtain⟨y1,y2,y3,y4⟩:=hx x0 hxm0
 rw[if_pos he,he]
 simp -dsimp (disch:=omega) only[wpS,wpT,Nat.reduceEqDiff]
 refine call (dgwithin_ok (hv.keep (E1.trans X1).keep) s (by omega)) ?_
 rintro _ h2 ⟨X2,p2⟩
 have m2:=X2.n
 obtain⟨a2,s2,b2,t2,rfl,_,_,_,u1,_,u2,u3,u4⟩:=p2.parts
 simp -dsimp (disch:=omega) only[wpS,wpT,Nat.reduceEqDiff,Nat.reduceLeDiff,Nat.reduceAdd,zc83,st83,fa83_0,ld81,u1,u2,u3,u4,tkA]
 obtain⟨H3,hH3⟩ : ∃H3,H3=(h2.new (.cells ZR 0 none)).put h2.n (.cells [a2,s2,b2,t2] 0 none):=⟨_,rfl⟩
 have e3:Ext h2 H3:=by rw[hH3];exact((Ext.refl _).new _).put (Nat.le_refl _) _
 have n3:H3.n=h2.n+1:=by rw[hH3];rfl
 have gw:H3.ext.get h2.n=some (.cells [a2,s2,b2,t2] 0 none):=by rw[hH3];simp (disch:=first|omega|(simp only[new_n,put_n];omega)|(repeat first|rw[new_n]|rw[put_n])) only[get_put_same]
 have p3:=p2.keep e3.keep
 rw[←hH3]
 clear hH3
 refine call (pside_ok (rside_rat p3)) ?_
 rintro _ h5 ⟨X5,rfl⟩
 rw[side_sign]
 have m5:=X5.n
 have k5:=X5.kept (by omega) (e3.kept (by omega) (X2.kept (by omega) k1))
 have E5:=(((E1.trans X1).trans X2).trans e3).trans X5
 have gw5:=X5.kept (by omega) gw
 have p5:=p3.keep X5.keep
 obtain⟨W,hW⟩ : ∃W,W=qwithin ll:=⟨_,rfl⟩
 have hWB:=s.within
 rw[←hW] at p5 hWB ⊢
 by_cases hw0:W=0
 ·rw[if_pos hw0,hw0,if_neg (by decide),if_pos rfl]
  simp -dsimp (disch:=omega) only[wpS,wpT,Nat.reduceEqDiff,Nat.reduceLeDiff,Nat.reduceAdd,bv30,st30,ld30,k5,sh_tz]
  exact⟨E5.put (by omega) _,by rw[sh_zeroV]⟩
 obtain⟨cc,hcc,hc0⟩ : ∃c:Int,(if W<0 then (-1:Int) else if W=0 then 0 else 1)=c∧(c == 0)=false:=⟨_,rfl,by split<;>(try split)<;>first|rfl|contradiction⟩
 rw[hcc,if_neg hw0]
 obtain⟨w,q1,q2,q3⟩:=hv.at E5.keep hx0
 have q3':indexAddr Proofs.Tryz.prog 22 v (.int .i64 0)=some (elemAddr v 0):=q3 .i64
 simp -dsimp (disch:=omega) only[wpS,Nat.reduceEqDiff,hc0,q1,q3',q2.1.len sl25]
 refine call (rfrom_ok (x0.length:Int) ⟨by omega,by omega⟩) ?_
 rintro _ h6 ⟨X6,p6⟩
 have m6:=X6.n
 obtain⟨a6,s6,b6,t6,rfl,_,_,_,u1,_,u2,u3,u4⟩:=p6.parts
 simp -dsimp (disch:=omega) only[wpS,wpT,Nat.reduceEqDiff,Nat.reduceLeDiff,Nat.reduceAdd,zc83,st83,u1,u2,u3,u4]
 obtain⟨K0,hK0⟩ : ∃H3,H3=(h6.new (.cells ZR 0 none)).put h6.n (.cells [a6,s6,b6,t6] 0 none):=⟨_,rfl⟩
 have e7:Ext h6 K0:=by rw[hK0];exact((Ext.refl _).new _).put (Nat.le_refl _) _
 have n7:K0.n=h6.n+1:=by rw[hK0];rfl
 have gn:K0.ext.get h6.n=some (.cells [a6,s6,b6,t6] 0 none):=by rw[hK0];simp (disch:=first|omega|(simp only[new_n,put_n];omega)|(repeat first|rw[new_n]|rw[put_n])) only[get_put_same]
 have p7:=p6.keep e7.keep
 rw[←hK0]
 clear hK0
 have X67:=X6.trans e7
 have gw7:=X67.kept (by omega) gw5
 have k7:=X67.kept (by omega) k5
 have E7:=E5.trans X67
 obtain⟨w',r1,r2,r3⟩:=hv.at E7.keep hx0
 have X0:=Ext.refl K0
 obtain⟨_,_,L1⟩:=pl4 gn
 have eN:(x0.length:Int) - 1=((len0 ll - 1:Nat):Int):=by omega
 have pn:PRat K0 (.agg #[a6,s6,b6,t6]) (((len0 ll:Nat):Int):Rat):=by rw[hl0];exact p7
 refine drawn [(6,[5])] (by kernel_rfl) (by kernel_rfl) rfl ?_
 simp -dsimp (disch:=omega) only[wpS,Nat.reduceEqDiff,r1,q3',r2.1.len sl25,eN]
 refine call (rfrom_ok ((len0 ll - 1:Nat):Int) ⟨by omega,by omega⟩) ?_
 rintro r8 h8 ⟨X8,p8⟩
 have m8:=X8.n
 simp -dsimp (disch:=omega) only[wpS,wpT,Nat.reduceEqDiff,Nat.reduceLeDiff,Nat.reduceAdd,ld83,row_of (X8.kept (by omega) gn),tk4']
 have hnB:QB 17 (((len0 ll:Nat):Int):Rat):=small_rat (by omega)
 have hn1:QB 17 (((len0 ll - 1:Nat):Int):Rat):=small_rat (by omega)
 have hn0:(((len0 ll:Nat):Int):Rat)≠0:=nat_rat_ne (by omega)
 refine call (rover_ok p8 (pn.keep X8.keep) hn1 hnB (by omega) hn0) ?_
 rintro _ h9 ⟨X9,p9⟩
 have m9:=X9.n
 obtain⟨a9,s9,b9,t9,rfl,_,_,_,u1,_,u2,u3,u4⟩:=p9.parts
 simp -dsimp (disch:=omega) only[wpS,wpT,Nat.reduceEqDiff,Nat.reduceLeDiff,Nat.reduceAdd,zc83,st83,u1,u2,u3,u4]
 refine⟨by repeat' first|refine wpSteady_c2 ?_ ?_|refine wpSteady_t2 ?_ ?_|exact wpSteady_one rfl rfl rfl rfl (steady_ext (H0:=K0) rfl (by omega) (by assumption) (by assumption) (by with_reducible assumption)),?_⟩
 obtain⟨K1,hK1⟩ : ∃H3,H3=(h9.new (.cells ZR 0 none)).put h9.n (.cells [a9,s9,b9,t9] 0 none):=⟨_,rfl⟩
 have ea:Ext h9 K1:=by rw[hK1];exact((Ext.refl _).new _).put (Nat.le_refl _) _
 have na:K1.n=h9.n+1:=by rw[hK1];rfl
 have gp:K1.ext.get h9.n=some (.cells [a9,s9,b9,t9] 0 none):=by rw[hK1];simp (disch:=first|omega|(simp only[new_n,put_n];omega)|(repeat first|rw[new_n]|rw[put_n])) only[get_put_same]
 have pa:=p9.keep ea.keep
 rw[←hK1]
 clear hK1 X0
 have Xa:=(X8.trans X9).trans ea
 have gwa:=Xa.kept (by omega) gw7
 have ka:=Xa.kept (by omega) k7
 have Ea:=E7.trans Xa
 have pw:=p5.keep (X67.trans Xa).keep
 have X0:=Ext.refl K1
 obtain⟨_,_,L2⟩:=pl4 gwa
 have hPB:=hn1.div hnB hn0
 simp -dsimp (disch:=omega) only[wpS,wpT,Nat.reduceAdd]
 refine drawn [(6,[2,4,5])] (by kernel_rfl) (by kernel_rfl) rfl ?_
 simp -dsimp (disch:=omega) only[wpS,wpT,Nat.reduceEqDiff,Nat.reduceLeDiff,Nat.reduceAdd,ld83,row_of gwa,row_of gp,tk4']
 refine call (rtimes_ok pa pw hPB hWB (by omega)) ?_
 rintro rb hb1 ⟨Xb,pb⟩
 have mb:=Xb.n
 simp -dsimp (disch:=omega) only[wpS,Nat.reduceEqDiff]
 refine call (dgmeans_ok (hv.keep (Ea.trans Xb).keep) s (by omega)) ?_
 rintro rc hc1 ⟨Xc,pc⟩
 have mc:=Xc.n
 simp -dsimp (disch:=omega) only[wpS,Nat.reduceEqDiff]
 have hMB:=s.means
 refine call (rplus_ok (pb.keep Xc.keep) pc (hPB.mul hWB) hMB (by omega)) ?_
 rintro rd hd1 ⟨Xd,pd⟩
 have md:=Xd.n
 have Xbd:=(Xb.trans Xc).trans Xd
 have Xbc:=Xb.trans Xc
 simp -dsimp (disch:=omega) only[wpS,wpT,Nat.reduceEqDiff,Nat.reduceLeDiff,Nat.reduceAdd,ld83,row_of (Xbd.kept (by omega) gwa),tk4']
 refine call (rover_ok pd (pw.keep Xbd.keep) ((hPB.mul hWB).add hMB) hWB (by omega) hw0) ?_
 rintro re he1 ⟨Xe,pe⟩
 have me:=Xe.n
 have Xbe:=Xbd.trans Xe
 simp -dsimp (disch:=omega) only[wpS,Nat.reduceEqDiff]
 refine call (rtold_ok pe) ?_
 rintro _ hf1 ⟨Xf,rfl⟩
 have mf:=Xf.n
 have Xbf:=Xbe.trans Xf
 have hres:qratioV ll=((((len0 ll - 1:Nat):Int):Rat) / (((len0 ll:Nat):Int):Rat)*W+qmeansV ll) / W:=by rw[hW];rfl
 rw[hres]
 obtain⟨n,d,e,hf⟩:=toldV_form (((((len0 ll - 1:Nat):Int):Rat) / (((len0 ll:Nat):Int):Rat)*W+qmeansV ll) / W)
 have hf':=hf
 unfold toldV at hf'
 rw[hf',hf]
 have kg:=Xbf.kept (by omega) ka
 simp -dsimp (disch:=omega) only[wpS,wpT,Nat.reduceEqDiff,Nat.reduceLeDiff,Nat.reduceAdd,st30,kg,shV_cells,shC_len,shC_all,sh_sp3]
 refine⟨by repeat' first|refine wpSteady_c2 ?_ ?_|refine wpSteady_t2 ?_ ?_|exact wpSteady_one rfl rfl rfl rfl (steady_ext (H0:=K1) rfl (by omega) (by assumption) (by assumption) (by with_reducible assumption)),?_⟩
 simp -dsimp (disch:=omega) only[wpS,wpT,Nat.reduceEqDiff,Nat.reduceLeDiff,Nat.reduceAdd,ld30,shC_len,sh_take]
 exact⟨(Ea.trans Xbf).put (by omega) _,rfl⟩
end Go.Id

/-! Contracts: the reference's chapter 35: Within, Means. -/
namespace Go.Id
open Go
abbrev rfBits (m n k:Nat):Nat:=rBits m n k+iBits m n k+oBits m n k
set_option maxHeartbeats 1000000 in
theorem rfWithin_ok {h:IH} {v:Value} {ll:List (List (Nat×Nat))} {k:Nat} (hv:ShLs h v ll) (hk:svErr ll=0→SvOk ll k∧rfBits ll.length (len0 ll) k<16000000) :
  WV Proofs.Tryz.prog (.func (.func 14) #[] #[]) [v] h fun r h'=>Ext h h'∧r=withinRes ll:=by
 refine enter (nt:=16) (rs:=[.cell 2 30,.tmp 3]) Proofs.Tryz.func14 rfl rfl rfl (by simp) ?_
 simp -dsimp (disch:=omega) only[wpS,Nat.reduceEqDiff,zc30]
 have E1:Ext h (h.new (.cells Z16 0 none)):=(Ext.refl h).new _
 have g1:(h.new (.cells Z16 0 none)).ext.get h.n=some (.cells Z16 0 none):=by simp (disch:=first|omega|(simp only[new_n,put_n];omega)|(repeat first|rw[new_n]|rw[put_n])) only[get_new_same]
 refine call (rfseveral_ok (hv.keep E1.keep)) ?_
 rintro _ h1 ⟨X1,rfl⟩
 have m1:=X1.n
 simp only[new_n] at m1
 have k1:=X1.kept (by simp) g1
 unfold withinRes
 by_cases he:svErr ll=0
 ·obtain⟨s,hb⟩:=hk he
  have hb:rBits ll.length (len0 ll) k+iBits ll.length (len0 ll) k+oBits ll.length (len0 ll) k<16000000:=hb
  rw[if_pos he,he]
  simp -dsimp (disch:=omega) only[wpS,wpT,Nat.reduceEqDiff]
  refine call (rfinner_ok (hv.keep (E1.trans X1).keep) s (by omega)) ?_
  rintro r2 h2 ⟨X2,p2⟩
  have m2:=X2.n
  simp -dsimp (disch:=omega) only[wpS,Nat.reduceEqDiff]
  refine call (refout_ok p2) ?_
  rintro _ h4 ⟨X4,rfl⟩
  have kg:=X4.kept (by omega) (X2.kept (by omega) k1)
  have m4:=X4.n
  obtain⟨n,d,e,hf⟩:=toldV_form (qwithin ll)
  have hf':=hf
  unfold toldV at hf'
  rw[hf',hf]
  simp -dsimp (disch:=omega) only[wpS,wpT,Nat.reduceEqDiff,Nat.reduceLeDiff,Nat.reduceAdd,st30,ld30,kg,shV_cells,shC_len,shC_all,sh_sp3,sh_take]
  exact⟨(((E1.trans X1).trans X2).trans X4).put (by omega) _,rfl⟩
 ·rw[if_neg he]
  have he':(svErr ll == 0)=false:=by simpa using he
  simp -dsimp (disch:=omega) only[wpS,wpT,Nat.reduceEqDiff,Nat.reduceLeDiff,Nat.reduceAdd,bv30,st30,ld30,k1,sh_tz]
  exact⟨(E1.trans X1).put (by omega) _,by rw[sh_zeroV]⟩
set_option maxHeartbeats 1000000 in
theorem rfMeans_ok {h:IH} {v:Value} {ll:List (List (Nat×Nat))} {k:Nat} (hv:ShLs h v ll) (hk:svErr ll=0→SvOk ll k∧rfBits ll.length (len0 ll) k<16000000) :
  WV Proofs.Tryz.prog (.func (.func 16) #[] #[]) [v] h fun r h'=>Ext h h'∧r=meansRes ll:=by
 refine enter (nt:=16) (rs:=[.cell 2 30,.tmp 3]) Proofs.Tryz.func16 rfl rfl rfl (by simp) ?_
 simp -dsimp (disch:=omega) only[wpS,Nat.reduceEqDiff,zc30]
 have E1:Ext h (h.new (.cells Z16 0 none)):=(Ext.refl h).new _
 have g1:(h.new (.cells Z16 0 none)).ext.get h.n=some (.cells Z16 0 none):=by simp (disch:=first|omega|(simp only[new_n,put_n];omega)|(repeat first|rw[new_n]|rw[put_n])) only[get_new_same]
 refine call (rfseveral_ok (hv.keep E1.keep)) ?_
 rintro _ h1 ⟨X1,rfl⟩
 have m1:=X1.n
 simp only[new_n] at m1
 have k1:=X1.kept (by simp) g1
 unfold meansRes
 by_cases he:svErr ll=0
 ·obtain⟨s,hb⟩:=hk he
  have hb:rBits ll.length (len0 ll) k+iBits ll.length (len0 ll) k+oBits ll.length (len0 ll) k<16000000:=hb
  rw[if_pos he,he]
  simp -dsimp (disch:=omega) only[wpS,wpT,Nat.reduceEqDiff]
  refine call (rfouter_ok (hv.keep (E1.trans X1).keep) s (by omega)) ?_
  rintro r2 h2 ⟨X2,p2⟩
  have m2:=X2.n
  simp -dsimp (disch:=omega) only[wpS,Nat.reduceEqDiff]
  refine call (refout_ok p2) ?_
  rintro _ h4 ⟨X4,rfl⟩
  have kg:=X4.kept (by omega) (X2.kept (by omega) k1)
  have m4:=X4.n
  obtain⟨n,d,e,hf⟩:=toldV_form (qmeansV ll)
  have hf':=hf
  unfold toldV at hf'
  rw[hf',hf]
  simp -dsimp (disch:=omega) only[wpS,wpT,Nat.reduceEqDiff,Nat.reduceLeDiff,Nat.reduceAdd,st30,ld30,kg,shV_cells,shC_len,shC_all,sh_sp3,sh_take]
  exact⟨(((E1.trans X1).trans X2).trans X4).put (by omega) _,rfl⟩
 ·rw[if_neg he]
  have he':(svErr ll == 0)=false:=by simpa using he
  simp -dsimp (disch:=omega) only[wpS,wpT,Nat.reduceEqDiff,Nat.reduceLeDiff,Nat.reduceAdd,bv30,st30,ld30,k1,sh_tz]
  exact⟨(E1.trans X1).put (by omega) _,by rw[sh_zeroV]⟩
end Go.Id

/-! Contracts: the reference's chapter 35: Effective. -/
namespace Go.Id
open Go
theorem qsum_nonneg {l:List Rat} (h : ∀q∈l,0≤q) : ∀i,i≤l.length→0≤qsum (l.take i)
 | 0,_=>by simp[qsum]
 | i+1,hi=>by
  obtain⟨q,hq⟩ : ∃q,l[i]?=some q:=⟨_,List.getElem?_eq_getElem (by omega)⟩
  rw[take_snoc hq,qsum_snoc]
  exact Rat.add_nonneg (qsum_nonneg h i (by omega)) (h q (List.mem_of_getElem? hq))
theorem sq_nonneg (x:Rat):0≤x*x:=by
 rcases Rat.le_total (a:=0) (b:=x) with h|h
 ·exact Rat.mul_nonneg h h
 ·have h2:0 ≤ -x:=by have:=Rat.neg_le_neg h;simpa using this
  have:=Rat.mul_nonneg h2 h2
  rwa [Rat.neg_mul,Rat.mul_neg,Rat.neg_neg] at this
theorem div_nonneg' {x y:Rat} (hx:0≤x) (hy:0<y):0≤x / y:=by
 rw[Rat.div_def];exact Rat.mul_nonneg hx (Rat.le_of_lt (Rat.inv_pos.2 hy))
theorem qauto0_nonneg {l:List Rat} {c:Rat} (h0:l ≠ []):0≤qauto l c 0:=by
 have:=qsum_nonneg (l:=qprods l c 0) (by
  intro q hq
  obtain⟨t,_,rfl⟩:=List.mem_map.1 hq
  exact sq_nonneg _) _ (Nat.le_refl _)
 rw[List.take_length] at this
 exact div_nonneg' this (qlen_pos h0)
theorem div_pos_iff' {x y:Rat} (hy:0<y):0<x / y↔0<x:=by
 rw[Rat.div_def];exact Rat.mul_pos_iff_of_pos_right (Rat.inv_pos.2 hy)
theorem num_neg_iff (q:Rat):q.num<0↔q<0:=by
 have:=Rat.num_nonneg (q:=q)
 constructor
 ·intro h
  apply Classical.byContradiction;intro hn
  have:=this.2 (Rat.not_lt.1 hn)
  omega
 ·intro h
  apply Classical.byContradiction;intro hn
  exact absurd h (Rat.not_lt.2 (this.1 (by omega)))
theorem two_mul' (s:Rat):s*Rat.divInt 2 1=s+s:=by
 rw[show Rat.divInt 2 1=1+1 by decide +kernel,Rat.mul_add,Rat.mul_one]
theorem divInt_one1:Rat.divInt 1 1=1:=by decide +kernel
theorem divInt_by1 (n:Int):Rat.divInt n 1=(n:Rat):=Rat.num_divInt_den (n:Rat)
set_option maxHeartbeats 8000000 in
theorem rfEff_ok {h:IH} {v:Value} {l:List (Nat×Nat)} (hv:ShSl h v l) {k:Nat} (hk:allOk l → ∀q∈l.map rOf,QB k q) (hb:l.length≤200→eBits l.length k+eBits l.length k+100<16000000) :
  WV Proofs.Tryz.prog (.func (.func 30) #[] #[]) [v] h fun r h'=>Ext h h'∧r=effRes l:=by
 have her:=chErr_range l
 refine enter (nt:=76) (rs:=[.cell 2 30,.tmp 3]) Proofs.Tryz.func30 rfl rfl rfl (by simp) ?_
 simp -dsimp (disch:=omega) only[wpS,Nat.reduceEqDiff,zc30]
 have E1:Ext h (h.new (.cells Z16 0 none)):=(Ext.refl h).new _
 have g1:(h.new (.cells Z16 0 none)).ext.get h.n=some (.cells Z16 0 none):=by simp (disch:=first|omega|(simp only[new_n,put_n];omega)|(repeat first|rw[new_n]|rw[put_n])) only[get_new_same]
 refine call (rfright_ok (hv.keep E1.keep)) ?_
 rintro _ h1 ⟨X1,rfl⟩
 have m1:=X1.n
 simp only[new_n] at m1
 have k1:=X1.kept (by simp) g1
 unfold effRes
 by_cases he:chErr l=0
 case neg =>
  rw[if_neg he]
  have he':(chErr l == 0)=false:=by simpa using he
  simp -dsimp (disch:=omega) only[wpS,wpT,Nat.reduceEqDiff,Nat.reduceLeDiff,Nat.reduceAdd,bv30,st30,ld30,k1,sh_tz]
  exact⟨(E1.trans X1).put (by omega) _,by rw[sh_zeroV]⟩
 rw[if_pos he,he]
 obtain⟨e1,e2,e3⟩:=chErr_iff.1 he
 have hkk:=hk e2
 have hbb:=hb e1
 clear hk hb
 have e3':l.map rOf ≠ []:=by simpa using e3
 have hl0:0<l.length:=List.length_pos_iff.2 e3
 have hlen:(l.map rOf).length=l.length:=List.length_map ..
 obtain⟨ka,hka⟩ : ∃ka,ka=aBits l.length k:=⟨_,rfl⟩
 have hab:aBits l.length k<16000000:=by
  have:1*(aBits l.length k+aBits l.length k+1+aBits l.length k+1)≤eBits l.length k:=Nat.mul_le_mul_right _ (by omega)
  omega
 have hmb:=qmean_bits (l:=l.map rOf) e3' (by simp;omega) hkk
 rw[List.length_map] at hmb
 have haB : ∀j,QB ka (qauto (l.map rOf) (qmean (l.map rOf)) j):=fun j=>by
  have:=qauto_bits (k:=j) hkk hmb (by simp;omega) e3'
  rw[List.length_map] at this
  rw[hka];exact this
 have hEv:eBits l.length k=(l.length+1)*(ka+ka+1+ka+1):=by rw[hka]
 rw[hEv] at hbb
 simp -dsimp (disch:=omega) only[wpS,wpT,Nat.reduceEqDiff]
 refine call (rfvalues_ok (hv.keep (E1.trans X1).keep) e2 (by omega)) ?_
 rintro sl h2 ⟨X2,hs⟩
 have m2:=X2.n
 obtain⟨cs0,hs0,_,_⟩:=id hs
 have hslen:=fun(h':IH)=>hs0.len (P:=Proofs.Tryz.prog) sl111 h'
 rw[hlen] at hslen
 have hauto : ∀(hh:IH) (j:Nat),Ext h2 hh→j≤1000000→WV Proofs.Tryz.prog (.func (.func 83) #[] #[]) [sl,KN j] hh fun r h'=>Ext hh h'∧RRat h' r (qauto (l.map rOf) (qmean (l.map rOf)) j):=fun hh j e hj =>
  rfauto_ok (hs.keep kept_q e.keep) e3' hj hkk (by rw[List.length_map];exact hab)
 have hW0:0≤qauto (l.map rOf) (qmean (l.map rOf)) 0:=qauto0_nonneg e3'
 generalize hA:qauto (l.map rOf) (qmean (l.map rOf))=A at *
 simp -dsimp (disch:=omega) only[wpS,Nat.reduceEqDiff]
 refine call (hauto h2 0 (Ext.refl _) (by omega)) ?_
 rintro r3 h3 ⟨X3,p3⟩
 have m3:=X3.n
 obtain⟨a3,s3,b3,t3,rfl,_,_,_,u1,_,u2,u3,u4⟩:=p3.parts
 simp -dsimp (disch:=omega) only[wpS,wpT,Nat.reduceEqDiff,Nat.reduceLeDiff,Nat.reduceAdd,zc91,st91,ld91,u1,u2,u3,u4,tk4']
 obtain⟨H4,hH4⟩ : ∃H4,H4=(h3.new (.cells ZR 0 none)).put h3.n (.cells [a3,s3,b3,t3] 0 none):=⟨_,rfl⟩
 have x4:Ext h3 H4:=by rw[hH4];exact((Ext.refl _).new _).put (Nat.le_refl _) _
 have n4:H4.n=h3.n+1:=by rw[hH4];rfl
 have g6:H4.ext.get h3.n=some (.cells [a3,s3,b3,t3] 0 none):=by rw[hH4];simp (disch:=first|omega|(simp only[new_n,put_n];omega)|(repeat first|rw[new_n]|rw[put_n])) only[get_put_same]
 have k4:=x4.kept (by omega) (X3.kept (by omega) (X2.kept (by omega) k1))
 have p4:=p3.keep x4.keep
 have E4:=(((E1.trans X1).trans X2).trans X3).trans x4
 rw[←hH4]
 clear hH4
 refine call (zero_ok p4) ?_
 rintro _ h5 ⟨X5,rfl⟩
 have m5:=X5.n
 have k5:=X5.kept (by omega) k4
 have g65:=X5.kept (by omega) g6
 have p5:=p4.keep X5.keep
 have E5:=E4.trans X5
 have E25:Ext h2 h5:=(X3.trans x4).trans X5
 by_cases hw0:A 0=0
 ·rw[if_pos hw0,decide_eq_true hw0]
  simp -dsimp (disch:=omega) only[wpS,wpT,Nat.reduceEqDiff,Nat.reduceLeDiff,Nat.reduceAdd,bv30,st30,ld30,k5,sh_tz]
  exact⟨E5.put (by omega) _,by rw[sh_zeroV]⟩
 rw[if_neg hw0,decide_eq_false hw0]
 have hWp:0<A 0:=by
  rcases Rat.le_iff_lt_or_eq.1 hW0 with h|h
  ·exact h
  ·exact absurd h.symm hw0
 simp -dsimp (disch:=omega) only[wpS,Nat.reduceEqDiff]
 refine call (quick_ok 0 1 ⟨by omega,by omega⟩ ⟨by omega,by omega⟩ (by omega)) ?_
 rintro r8 h8 ⟨X8,p8⟩
 rw[divInt_zero1] at p8
 have m8:=X8.n
 obtain⟨a8,s8,b8,t8,rfl,_,_,_,u1,_,u2,u3,u4⟩:=p8.parts
 simp -dsimp (disch:=omega) only[wpS,wpT,Nat.reduceEqDiff,Nat.reduceLeDiff,Nat.reduceAdd,zc91,st91,u1,u2,u3,u4]
 have x9:Ext h8 ((h8.new (.cells ZR 0 none)).put h8.n (.cells [a8,s8,b8,t8] 0 none)):=((Ext.refl _).new _).put (Nat.le_refl _) _
 obtain⟨W,hW⟩ : ∃W,W=A 0:=⟨_,rfl⟩
 obtain⟨N,hN⟩ : ∃N,N=l.length:=⟨_,rfl⟩
 rw[←hW] at p5 hw0 hWp
 rw[←hN] at hslen
 have St : ∀hh,Ext h8 hh→Ext h hh∧Ext h2 hh∧hh.ext.get h.n=some (.cells Z16 0 none)∧hh.ext.get h3.n=some (.cells [a3,s3,b3,t3] 0 none)∧RRat hh (.agg #[a3,s3,b3,t3]) W:=by
  intro hh e
  have e6:=X8.trans e
  exact⟨E5.trans e6,E25.trans e6,e6.kept (by omega) k5,e6.kept (by omega) g65,p5.keep e6.keep⟩
 have hbN:(N+1)*(ka+ka+1+ka+1)+(N+1)*(ka+ka+1+ka+1)+100<16000000:=by rw[hN];exact hbb
 have hka3:1*(ka+ka+1+ka+1)≤(N+1)*(ka+ka+1+ka+1):=Nat.mul_le_mul_right _ (by omega)
 have hWB:QB ka W:=by rw[hW];exact haB 0
 refine loop_cut (fun fr hh => ∃a s b t,Ext h8 hh∧h8.n<hh.n∧hh.ext.get h8.n=some (.cells [a,s,b,t] 0 none)∧RRat hh (.agg #[a,s,b,t]) (effS A W N (N+1) 0 0)∧QB ((N+1)*(ka+ka+1+ka+1)) (effS A W N (N+1) 0 0)∧fget fr 2=some (ptr (2*h.n) 0)∧fget fr 5=some sl∧fget fr 7=some (ptr (2*h8.n) 0)) ?_ ?_
 ·refine loop (fun m fr hh => ∃(i:Nat) (S:Rat) (a s b t:Value),i+m=N+1∧effS A W N m i S=effS A W N (N+1) 0 0∧QB (i*(ka+ka+1+ka+1)) S∧Ext h8 hh∧h8.n<hh.n∧hh.ext.get h8.n=some (.cells [a,s,b,t] 0 none)∧RRat hh (.agg #[a,s,b,t]) S ∧
    fget fr 2=some (ptr (2*h.n) 0)∧fget fr 5=some sl∧fget fr 6=some (ptr (2*h3.n) 0)∧fget fr 7=some (ptr (2*h8.n) 0)∧fget fr 8=some (KN i)) (N+1)
   ⟨0,0,a8,s8,b8,t8,by omega,rfl,by rw[Nat.zero_mul];exact QB.zero,x9,by simp,by simp (disch:=first|omega|(simp only[new_n,put_n];omega)|(repeat first|rw[new_n]|rw[put_n])) only[get_put_same],p8.keep x9.keep,by simp,by simp,by simp,by simp,by simp⟩ ?_
  rintro m fr hh ⟨i,S,a,s,b,t,him,hS,hSb,e,hn,g8,p8',f2,f5,f6,f7,f8⟩
  have done : ∀(x:S=effS A W N (N+1) 0 0),QB ((N+1)*(ka+ka+1+ka+1)) (effS A W N (N+1) 0 0):=fun x=>by
   rw[←x];exact hSb.mono (Nat.mul_le_mul_right _ (by omega))
  have e2i:(2:Int)*(i:Int)=((2*i:Nat):Int):=by omega
  simp -dsimp (disch:=omega) only[wpS,Nat.reduceEqDiff,f5,f8,hslen,e2i]
  refine bq_intro ?_ ?_<;>intro hc<;>simp only[decide_eq_true_eq,decide_eq_false_iff_not] at hc
  ·have h2i:2*i<N:=by omega
   obtain⟨m',rfl⟩ : ∃m',m=m'+1:=⟨m - 1,by omega⟩
   rw[effS,if_pos h2i] at hS
   obtain⟨y1,y2,y3,y4,y5⟩:=St hh e
   have X0:=Ext.refl hh
   obtain⟨_,_,L1⟩:=ql4 y4
   simp -dsimp (disch:=omega) only[wpS,wpT]
   refine drawn [(10,[3,8,9])] (by kernel_rfl) (by kernel_rfl) rfl ?_
   simp -dsimp (disch:=omega) only[wpS,Nat.reduceEqDiff,f5,f8,e2i]
   refine call (hauto hh (2*i) y2 (by omega)) ?_
   rintro ra z1 ⟨Z1,q1⟩
   have e2j:((2*i:Nat):Int)+1=((2*i+1:Nat):Int):=by omega
   simp -dsimp (disch:=omega) only[wpS,Nat.reduceEqDiff,f5,f8,e2i,e2j]
   refine call (hauto z1 (2*i+1) (y2.trans Z1) (by omega)) ?_
   rintro rb z2 ⟨Z2,q2⟩
   simp -dsimp (disch:=omega) only[wpS,Nat.reduceEqDiff]
   refine call (qplus_ok (q1.keep Z2.keep) q2 (haB _) (haB _) (by omega)) ?_
   rintro rc z3 ⟨Z3,q3⟩
   have hpB:=(haB (2*i)).add (haB (2*i+1))
   have Z12:=Z1.trans Z2
   have Z13:=Z12.trans Z3
   have mz:=Z13.n
   obtain⟨P,hP⟩ : ∃P,P=A (2*i)+A (2*i+1):=⟨_,rfl⟩
   rw[←hP] at q3 hS hpB
   have m38:=e.n
   simp -dsimp (disch:=omega) only[wpS,wpT,Nat.reduceEqDiff,Nat.reduceLeDiff,Nat.reduceAdd,ld91,f6,row_of (Z13.kept (by omega) y4),tk4']
   refine call (qover_ok q3 (y5.keep Z13.keep) hpB hWB (by omega) hw0) ?_
   rintro rd z4 ⟨Z4,q4⟩
   have mz4:=Z4.n
   have Z14:=Z13.trans Z4
   obtain⟨c1,c2,c3,c4,rfl,hG,_,_,u1,_,u2,u3,u4⟩:=q4.parts
   obtain⟨hc1,_,_⟩:=hG.co
   subst hc1
   simp -dsimp (disch:=omega) only[wpS,wpT,Nat.reduceEqDiff,Nat.reduceLeDiff,Nat.reduceAdd,zc91,st91,u1,u2,u3,u4]
   refine⟨wpSteady_t2 (wpSteady_one rfl rfl rfl rfl (steady_ext (H0:=hh) (b:=2*h3.n) (o:=0) f6 (by omega) (by assumption) (by assumption) L1)) (wpSteady_t2 (wpSteady_one rfl rfl rfl rfl (steady_ext (H0:=hh) (b:=2*h3.n) (o:=0) f6 (by omega) (by assumption) (by assumption) L1)) (wpSteady_one rfl rfl rfl rfl (steady_ext (H0:=hh) (b:=2*h3.n) (o:=0) f6 (by omega) (by assumption) (by assumption) L1))),?_⟩
   obtain⟨K0,hK0⟩ : ∃H4,H4=(z4.new (.cells ZR 0 none)).put z4.n (.cells [.bool (decide ((P / W).num<0)),c2,c3,c4] 0 none):=⟨_,rfl⟩
   have w4:Ext z4 K0:=by rw[hK0];exact((Ext.refl _).new _).put (Nat.le_refl _) _
   have nw4:K0.n=z4.n+1:=by rw[hK0];rfl
   have gp:K0.ext.get z4.n=some (.cells [.bool (decide ((P / W).num<0)),c2,c3,c4] 0 none):=by rw[hK0];simp (disch:=first|omega|(simp only[new_n,put_n];omega)|(repeat first|rw[new_n]|rw[put_n])) only[get_put_same]
   have q5:=q4.keep w4.keep
   have e5:Ext hh K0:=Z14.trans w4
   have gs5:=e5.kept hn g8
   have ps5:=p8'.keep e5.keep
   simp -dsimp (disch:=omega) only[wpS,wpT,Nat.reduceEqDiff,Nat.reduceAdd,fa91_0,fa89_0,ld4]
   rw[←hK0]
   clear hK0
   have hdB:=hpB.div hWB hw0
   have hi2:(i+1)*(ka+ka+1+ka+1)=i*(ka+ka+1+ka+1)+(ka+ka+1+ka+1):=by rw[Nat.add_mul,Nat.one_mul]
   have hi1:(i+1)*(ka+ka+1+ka+1)≤(N+1)*(ka+ka+1+ka+1):=Nat.mul_le_mul_right _ (by omega)
   by_cases hneg:(P / W).num<0
   ·have hp0:P≤0:=by
     apply Classical.byContradiction;intro hnp
     have:=(div_pos_iff' hWp).2 (Rat.not_le.1 hnp)
     have h2:=(num_neg_iff _).1 hneg
     exact absurd (Rat.le_of_lt this) (Rat.not_le.2 h2)
    rw[if_pos hp0] at hS
    have gp':=row_of gp
    rw[decide_eq_true hneg] at gp'
    simp -dsimp (disch:=omega) only[wpS,wpT,Nat.reduceEqDiff]
    exact⟨a,s,b,t,e.trans e5,by omega,gs5,hS▸ps5,done hS,by simp[f2],by simp[f5],by simp[f7]⟩
   ·have gp':=row_of gp
    rw[decide_eq_false hneg] at gp' q5
    simp -dsimp (disch:=omega) only[wpS,wpT,Nat.reduceEqDiff,Nat.reduceLeDiff,Nat.reduceAdd,ld91,gp',tk4']
    refine call (zero_ok q5) ?_
    rintro _ z6 ⟨Z6,rfl⟩
    have mz6:=Z6.n
    have e6:=e5.trans Z6
    have gs6:=Z6.kept (by omega) gs5
    have ps6:=ps5.keep Z6.keep
    have gp6:=row_of (Z6.kept (by omega) gp)
    rw[decide_eq_false hneg] at gp6
    by_cases hz0:P / W=0
    ·have hp0:P≤0:=by
      apply Classical.byContradiction;intro hnp
      have:=(div_pos_iff' hWp).2 (Rat.not_le.1 hnp)
      rw[hz0] at this
      exact absurd this Rat.lt_irrefl
     rw[if_pos hp0] at hS
     rw[decide_eq_true hz0]
     simp -dsimp (disch:=omega) only[wpS,Nat.reduceEqDiff]
     exact⟨a,s,b,t,e.trans e6,by omega,gs6,hS▸ps6,done hS,by simp[f2],by simp[f5],by simp[f7]⟩
    ·have hpp:0<P:=by
      refine(div_pos_iff' hWp).1 ?_
      have h1 : ¬P / W<0:=fun hh=>hneg ((num_neg_iff _).2 hh)
      rcases Rat.le_iff_lt_or_eq.1 (Rat.not_lt.1 h1) with h2|h2
      ·exact h2
      ·exact absurd h2.symm hz0
     rw[if_neg (Rat.not_le.2 hpp)] at hS
     rw[decide_eq_false hz0]
     simp -dsimp (disch:=omega) only[wpS,wpT,Nat.reduceEqDiff,Nat.reduceLeDiff,Nat.reduceAdd,ld91,f7,row_of gs6,gp6,tk4']
     refine call (qplus_ok ps6 (q5.keep Z6.keep) hSb hdB (by omega)) ?_
     rintro rf z7 ⟨Z7,q7⟩
     have mz7:=Z7.n
     obtain⟨d1,d2,d3,d4,rfl,_,_,_,u1,_,u2,u3,u4⟩:=q7.parts
     have gs7:=Z7.kept (by omega) gs6
     simp -dsimp (disch:=omega) only[wpS,wpT,Nat.reduceEqDiff,Nat.reduceLeDiff,Nat.reduceAdd,st91,f7,f8,gs7,u1,u2,u3,u4]
     refine⟨m',by omega,i+1,S+P / W,d1,d2,d3,d4,by omega,hS,?_,((e.trans e6).trans Z7).put (by omega) _,by simp only[put_n];omega,get_put_same _ _ rfl,q7.keep ((Keep.refl _).put gs7 _),by simp[f2],by simp[f5],by simp[f6],by simp[f7],by simp⟩
     exact(hSb.add hdB).mono (by omega)
  ·have hSd:S=effS A W N (N+1) 0 0:=by
    rw[←hS]
    cases m with
    | zero=>rfl
    | succ m=>rw[effS,if_neg (by omega)]
   simp -dsimp (disch:=omega) only[wpS,wpT]
   exact⟨a,s,b,t,e,hn,g8,hSd▸p8',done hSd,by simp[f2],by simp[f5],by simp[f7]⟩
 rintro fr hh ⟨a,s,b,t,e,hn,g8,pS,hSB,f2,f5,f7⟩
 obtain⟨S,hS⟩ : ∃S,S=effS A W N (N+1) 0 0:=⟨_,rfl⟩
 have hq:qlen (l.map rOf)=((N:Int):Rat):=by
  show(((l.map rOf).length:Int):Rat)=_
  rw[List.length_map,hN]
 have hres:qeff (l.map rOf)=((N:Int):Rat) / effT S ((N:Int):Rat):=by
  rw[qeff,hA,←hW,hq,List.length_map,←hN,←hS]
 have hn0:((N:Int):Rat)≠0:=by rw[←hq];exact qlen_ne e3'
 have hnp:0<((N:Int):Rat):=by rw[←hq];exact qlen_pos e3'
 have hnB:QB 17 ((N:Int):Rat):=by rw[←hq];exact qlen_bits (by simp;omega)
 rw[hres]
 rw[←hS] at pS hSB
 clear hS hres
 obtain⟨y1,y2,y3,y4,y5⟩:=St hh e
 obtain⟨B,hB⟩ : ∃B,B=(N+1)*(ka+ka+1+ka+1):=⟨_,rfl⟩
 rw[←hB] at hSB hbN
 have o1B:QB 0 ((1:Int):Rat):=QB.int (by decide)
 have o1B':QB 0 (1:Rat):=o1B
 have me:=e.n
 have X0:=Ext.refl hh
 obtain⟨_,_,L1⟩:=ql4 g8
 have h2B:QB 1 (Rat.divInt 2 1):=QB.divInt (by decide) (by decide) (by decide)
 rw[d_seq]
 refine drawn [(0,[2])] (by kernel_rfl) (by kernel_rfl) rfl ?_
 simp -dsimp (disch:=omega) only[wpS,wpT,Nat.reduceLeDiff,Nat.reduceAdd,ld91,f7,row_of g8,tk4']
 refine call (quick_ok 2 1 ⟨by omega,by omega⟩ ⟨by omega,by omega⟩ (by omega)) ?_
 rintro ra z1 ⟨Z1,q1⟩
 simp -dsimp (disch:=omega) only[wpS,Nat.reduceEqDiff]
 refine call (qtimes_ok (pS.keep Z1.keep) q1 hSB h2B (by omega)) ?_
 rintro rb z2 ⟨Z2,q2⟩
 rw[two_mul'] at q2
 simp -dsimp (disch:=omega) only[wpS]
 refine call (quick_ok 1 1 ⟨by omega,by omega⟩ ⟨by omega,by omega⟩ (by omega)) ?_
 rintro rc z3 ⟨Z3,q3⟩
 rw[divInt_one1] at q3
 simp -dsimp (disch:=omega) only[wpS,Nat.reduceEqDiff]
 refine call (qminus_ok (q2.keep Z3.keep) q3 (hSB.add hSB) o1B' (by omega)) ?_
 rintro rd z4 ⟨Z4,q4⟩
 have Z14:=((Z1.trans Z2).trans Z3).trans Z4
 have mz:=Z14.n
 have hTB:=(hSB.add hSB).sub o1B'
 obtain⟨c1,c2,c3,c4,rfl,_,_,_,u1,_,u2,u3,u4⟩:=q4.parts
 simp -dsimp (disch:=omega) only[wpS,wpT,Nat.reduceEqDiff,Nat.reduceLeDiff,Nat.reduceAdd,zc91,st91,u1,u2,u3,u4]
 refine⟨wpSteady_one rfl rfl rfl rfl (steady_ext (H0:=hh) (b:=2*h8.n) (o:=0) f7 (by omega) (by assumption) (by assumption) L1),?_⟩
 obtain⟨K0,hK0⟩ : ∃H4,H4=(z4.new (.cells ZR 0 none)).put z4.n (.cells [c1,c2,c3,c4] 0 none):=⟨_,rfl⟩
 have w4:Ext z4 K0:=by rw[hK0];exact((Ext.refl _).new _).put (Nat.le_refl _) _
 have nw4:K0.n=z4.n+1:=by rw[hK0];rfl
 have gt:K0.ext.get z4.n=some (.cells [c1,c2,c3,c4] 0 none):=by rw[hK0];simp (disch:=first|omega|(simp only[new_n,put_n];omega)|(repeat first|rw[new_n]|rw[put_n])) only[get_put_same]
 have q5:=q4.keep w4.keep
 rw[←hK0]
 clear hK0 X0
 have Y1:=Z14.trans w4
 have X0:=Ext.refl K0
 obtain⟨_,_,L2⟩:=ql4 gt
 have hLB:QB 17 (1 / ((N:Int):Rat)):=(o1B.div hnB hn0).mono (by omega)
 simp -dsimp (disch:=omega) only[wpS,wpT,Nat.reduceAdd]
 refine drawn [(0,[4])] (by kernel_rfl) (by kernel_rfl) rfl ?_
 simp -dsimp (disch:=omega) only[wpS,wpT,Nat.reduceEqDiff,Nat.reduceLeDiff,Nat.reduceAdd,ld91,f5,hslen,row_of gt,tk4']
 refine call (quick_ok 1 (N:Int) ⟨by omega,by omega⟩ ⟨by omega,by omega⟩ (by omega)) ?_
 rintro re z5 ⟨Z5,q6⟩
 rw[divInt_one] at q6
 simp -dsimp (disch:=omega) only[wpS,Nat.reduceEqDiff]
 refine call (qorder_ok (q5.keep Z5.keep) q6 hTB hLB (by omega)) ?_
 rintro _ z6 ⟨Z6,rfl⟩
 have Z56:=Z5.trans Z6
 have mz6:=Z56.n
 have gt6:=Z56.kept (by omega) gt
 have V1:=Y1.trans Z56
 have gz6:=V1.kept (by omega) y3
 have q56:=q5.keep Z56.keep
 have hne:=effT_pos (s:=S) hnp
 by_cases hlt:S+S - 1<1 / ((N:Int):Rat)
 ·have hTT:effT S ((N:Int):Rat)=1 / ((N:Int):Rat):=by rw[effT,if_pos hlt]
  rw[if_pos hlt]
  simp -dsimp (disch:=omega) only[wpS,wpT,Nat.reduceEqDiff]
  refine⟨wpSteady_one rfl rfl rfl rfl (steady_ext (H0:=K0) rfl (by omega) (by assumption) (by assumption) L2),?_⟩
  simp -dsimp (disch:=omega) only[wpS,wpT,Nat.reduceEqDiff,Nat.reduceAdd,f5,hslen]
  refine call (quick_ok 1 (N:Int) ⟨by omega,by omega⟩ ⟨by omega,by omega⟩ (by omega)) ?_
  rintro r7 z7 ⟨Z7,q7⟩
  rw[divInt_one] at q7
  have mz7:=Z7.n
  obtain⟨d1,d2,d3,d4,rfl,_,_,_,v1,_,v2,v3,v4⟩:=q7.parts
  have gt7:=Z7.kept (by omega) gt6
  simp -dsimp (disch:=omega) only[wpS,wpT,Nat.reduceEqDiff,Nat.reduceLeDiff,Nat.reduceAdd,st91,gt7,v1,v2,v3,v4]
  have gbA:(z7.put z4.n (.cells [d1,d2,d3,d4] 0 none)).ext.get z4.n=some (.cells [d1,d2,d3,d4] 0 none):=get_put_same _ _ rfl
  have X9:=Ext.refl (z7.put z4.n (.cells [d1,d2,d3,d4] 0 none))
  obtain⟨_,_,L3⟩:=ql4 gbA
  have nHH:z4.n<(z7.put z4.n (.cells [d1,d2,d3,d4] 0 none)).n:=(by simp only[put_n];omega)
  have gzz:(z7.put z4.n (.cells [d1,d2,d3,d4] 0 none)).ext.get h.n=some (.cells Z16 0 none):=(by simp (disch:=first|omega|(simp only[new_n,put_n];omega)|(repeat first|rw[new_n]|rw[put_n])) only[get_put_old];exact Z7.kept (by omega) gz6)
  have EHH:Ext h (z7.put z4.n (.cells [d1,d2,d3,d4] 0 none)):=((y1.trans V1).trans Z7).put (by omega) _
  have pbb:RRat (z7.put z4.n (.cells [d1,d2,d3,d4] 0 none)) _ _:=q7.keep ((Keep.refl _).put gt7 _)
  have gbb:=gbA
  obtain⟨HH,hHH⟩ : ∃HH,HH=z7.put z4.n (.cells [d1,d2,d3,d4] 0 none):=⟨_,rfl⟩
  rw[←hHH] at X9 L3 nHH gzz EHH pbb gbb ⊢
  clear hHH
  refine drawn [(3,[2])] (by kernel_rfl) (by kernel_rfl) rfl ?_
  simp -dsimp (disch:=omega) only[wpS,Nat.reduceEqDiff,f5,hslen]
  refine call (quick_ok (N:Int) 1 ⟨by omega,by omega⟩ ⟨by omega,by omega⟩ (by omega)) ?_
  rintro rg za ⟨Za,qa⟩
  rw[divInt_by1] at qa
  have mza:=Za.n
  simp -dsimp (disch:=omega) only[wpS,wpT,Nat.reduceEqDiff,Nat.reduceLeDiff,Nat.reduceAdd,ld91,row_of (Za.kept nHH gbb),tk4']
  refine call (qover_ok qa (pbb.keep Za.keep) hnB hLB (by omega) (by rw[←hTT];exact fun h=>absurd hne (by rw[h];exact Rat.lt_irrefl))) ?_
  rintro rh zb ⟨Zb,qb⟩
  rw[←hTT] at qb
  have mzb:=Zb.n
  simp -dsimp (disch:=omega) only[wpS,Nat.reduceEqDiff]
  refine call (refout_ok qb) ?_
  rintro _ zc ⟨Zc,rfl⟩
  have mzc:=Zc.n
  obtain⟨n,d,ee,hf⟩:=toldV_form (((N:Int):Rat) / effT S ((N:Int):Rat))
  have hf':=hf
  unfold toldV at hf'
  rw[hf',hf]
  have Zac:=(Za.trans Zb).trans Zc
  have mn:=EHH.n
  have mhn:h.n<HH.n:=by omega
  have kg:zc.ext.get h.n=some (.cells Z16 0 none):=Zac.kept mhn gzz
  simp -dsimp (disch:=omega) only[wpS,wpT,Nat.reduceEqDiff,Nat.reduceLeDiff,Nat.reduceAdd,st30,kg,f2,shV_cells,shC_len,shC_all,sh_sp3]
  refine⟨wpSteady_one rfl rfl rfl rfl (steady_ext (H0:=HH) rfl (by omega) (by assumption) (by assumption) L3),?_⟩
  simp -dsimp (disch:=omega) only[wpS,wpT,Nat.reduceEqDiff,Nat.reduceLeDiff,Nat.reduceAdd,ld30,f2,shC_len,sh_take]
  exact⟨(EHH.trans Zac).put (by omega) _,rfl⟩
 ·have hTT:effT S ((N:Int):Rat)=S+S - 1:=by rw[effT,if_neg hlt]
  rw[if_neg hlt]
  obtain⟨cx,hcx,hcx0⟩ : ∃c:Int,(if S+S - 1=1 / ((N:Int):Rat) then (0:Int) else 1)=c∧decide (c<0)=false:=⟨_,rfl,by split<;>rfl⟩
  rw[hcx]
  simp -dsimp (disch:=omega) only[wpS,Nat.reduceEqDiff,hcx0]
  refine⟨wpSteady_one rfl rfl rfl rfl (steady_ext (H0:=K0) rfl (by omega) (by assumption) (by assumption) L2),?_⟩
  simp -dsimp (disch:=omega) only[wpS,wpT,Nat.reduceEqDiff,Nat.reduceAdd]
  have X9:=Ext.refl z6
  obtain⟨_,_,L3⟩:=ql4 gt6
  have nHH:z4.n<(z6).n:=(by omega)
  have gzz:(z6).ext.get h.n=some (.cells Z16 0 none):=gz6
  have EHH:Ext h (z6):=y1.trans V1
  have pbb:RRat (z6) _ _:=q56
  have gbb:=gt6
  obtain⟨HH,hHH⟩ : ∃HH,HH=z6:=⟨_,rfl⟩
  rw[←hHH] at X9 L3 nHH gzz EHH pbb gbb ⊢
  clear hHH
  refine drawn [(3,[2])] (by kernel_rfl) (by kernel_rfl) rfl ?_
  simp -dsimp (disch:=omega) only[wpS,Nat.reduceEqDiff,f5,hslen]
  refine call (quick_ok (N:Int) 1 ⟨by omega,by omega⟩ ⟨by omega,by omega⟩ (by omega)) ?_
  rintro rg za ⟨Za,qa⟩
  rw[divInt_by1] at qa
  have mza:=Za.n
  simp -dsimp (disch:=omega) only[wpS,wpT,Nat.reduceEqDiff,Nat.reduceLeDiff,Nat.reduceAdd,ld91,row_of (Za.kept nHH gbb),tk4']
  refine call (qover_ok qa (pbb.keep Za.keep) hnB hTB (by omega) (by rw[←hTT];exact fun h=>absurd hne (by rw[h];exact Rat.lt_irrefl))) ?_
  rintro rh zb ⟨Zb,qb⟩
  rw[←hTT] at qb
  have mzb:=Zb.n
  simp -dsimp (disch:=omega) only[wpS,Nat.reduceEqDiff]
  refine call (refout_ok qb) ?_
  rintro _ zc ⟨Zc,rfl⟩
  have mzc:=Zc.n
  obtain⟨n,d,ee,hf⟩:=toldV_form (((N:Int):Rat) / effT S ((N:Int):Rat))
  have hf':=hf
  unfold toldV at hf'
  rw[hf',hf]
  have Zac:=(Za.trans Zb).trans Zc
  have mn:=EHH.n
  have mhn:h.n<HH.n:=by omega
  have kg:zc.ext.get h.n=some (.cells Z16 0 none):=Zac.kept mhn gzz
  simp -dsimp (disch:=omega) only[wpS,wpT,Nat.reduceEqDiff,Nat.reduceLeDiff,Nat.reduceAdd,st30,kg,f2,shV_cells,shC_len,shC_all,sh_sp3]
  refine⟨wpSteady_one rfl rfl rfl rfl (steady_ext (H0:=HH) rfl (by omega) (by assumption) (by assumption) L3),?_⟩
  simp -dsimp (disch:=omega) only[wpS,wpT,Nat.reduceEqDiff,Nat.reduceLeDiff,Nat.reduceAdd,ld30,f2,shC_len,sh_take]
  exact⟨(EHH.trans Zac).put (by omega) _,rfl⟩
end Go.Id

/-! Contracts: the reference's chapter 35: Ratio. -/
namespace Go.Id
open Go
set_option maxHeartbeats 4000000 in
theorem rfRatio_ok {h:IH} {v:Value} {ll:List (List (Nat×Nat))} {k:Nat} (hv:ShLs h v ll) (hk:svErr ll=0→SvOk ll k∧rfBits ll.length (len0 ll) k<16000000) :
  WV Proofs.Tryz.prog (.func (.func 18) #[] #[]) [v] h fun r h'=>Ext h h'∧r=ratioRes ll:=by
 refine enter (nt:=38) (rs:=[.cell 2 30,.tmp 3]) Proofs.Tryz.func18 rfl rfl rfl (by simp) ?_
 simp -dsimp (disch:=omega) only[wpS,Nat.reduceEqDiff,zc30]
 have E1:Ext h (h.new (.cells Z16 0 none)):=(Ext.refl h).new _
 have g1:(h.new (.cells Z16 0 none)).ext.get h.n=some (.cells Z16 0 none):=by simp (disch:=first|omega|(simp only[new_n,put_n];omega)|(repeat first|rw[new_n]|rw[put_n])) only[get_new_same]
 refine call (rfseveral_ok (hv.keep E1.keep)) ?_
 rintro _ h1 ⟨X1,rfl⟩
 have m1:=X1.n
 simp only[new_n] at m1
 have k1:=X1.kept (by simp) g1
 unfold ratioRes
 by_cases he:svErr ll=0
 case neg =>
  rw[if_neg he]
  have he':(svErr ll == 0)=false:=by simpa using he
  simp -dsimp (disch:=omega) only[wpS,wpT,Nat.reduceEqDiff,Nat.reduceLeDiff,Nat.reduceAdd,bv30,st30,ld30,k1,sh_tz]
  exact⟨(E1.trans X1).put (by omega) _,by rw[sh_zeroV]⟩
 obtain⟨s,hb0⟩:=hk he
 have hb:(17+17+wBits ll.length (len0 ll) k+vBits ll.length (len0 ll) k+1+wBits ll.length (len0 ll) k)+iBits ll.length (len0 ll) k+oBits ll.length (len0 ll) k<16000000:=hb0
 obtain⟨l1,l2,hx⟩:=sv_zero he
 obtain⟨x0,hx0,hxm0,hl0⟩:=len0_at l1
 obtain⟨y1,y2,y3,y4⟩:=hx x0 hxm0
 rw[if_pos he,he]
 simp -dsimp (disch:=omega) only[wpS,wpT,Nat.reduceEqDiff]
 refine call (rfinner_ok (hv.keep (E1.trans X1).keep) s (by omega)) ?_
 rintro _ h2 ⟨X2,p2⟩
 have m2:=X2.n
 obtain⟨a2,s2,b2,t2,rfl,_,_,_,u1,_,u2,u3,u4⟩:=p2.parts
 simp -dsimp (disch:=omega) only[wpS,wpT,Nat.reduceEqDiff,Nat.reduceLeDiff,Nat.reduceAdd,zc91,st91,ld91,u1,u2,u3,u4,tk4']
 obtain⟨H3,hH3⟩ : ∃H3,H3=(h2.new (.cells ZR 0 none)).put h2.n (.cells [a2,s2,b2,t2] 0 none):=⟨_,rfl⟩
 have e3:Ext h2 H3:=by rw[hH3];exact((Ext.refl _).new _).put (Nat.le_refl _) _
 have n3:H3.n=h2.n+1:=by rw[hH3];rfl
 have gw:H3.ext.get h2.n=some (.cells [a2,s2,b2,t2] 0 none):=by rw[hH3];simp (disch:=first|omega|(simp only[new_n,put_n];omega)|(repeat first|rw[new_n]|rw[put_n])) only[get_put_same]
 have p3:=p2.keep e3.keep
 rw[←hH3]
 clear hH3
 refine call (zero_ok p3) ?_
 rintro _ h5 ⟨X5,rfl⟩
 have m5:=X5.n
 have k5:=X5.kept (by omega) (e3.kept (by omega) (X2.kept (by omega) k1))
 have E5:=(((E1.trans X1).trans X2).trans e3).trans X5
 have gw5:=X5.kept (by omega) gw
 have p5:=p3.keep X5.keep
 obtain⟨W,hW⟩ : ∃W,W=qwithin ll:=⟨_,rfl⟩
 have hWB:=s.within
 rw[←hW] at p5 hWB ⊢
 by_cases hw0:W=0
 ·rw[if_pos hw0,decide_eq_true hw0]
  simp -dsimp (disch:=omega) only[wpS,wpT,Nat.reduceEqDiff,Nat.reduceLeDiff,Nat.reduceAdd,bv30,st30,ld30,k5,sh_tz]
  exact⟨E5.put (by omega) _,by rw[sh_zeroV]⟩
 rw[if_neg hw0,decide_eq_false hw0]
 obtain⟨w,q1,q2,q3⟩:=hv.at E5.keep hx0
 have q3':indexAddr Proofs.Tryz.prog 22 v (.int .i64 0)=some (elemAddr v 0):=q3 .i64
 have X0:=Ext.refl h5
 obtain⟨_,_,L1⟩:=ql4 gw5
 have eN:(x0.length:Int) - 1=((len0 ll - 1:Nat):Int):=by omega
 simp -dsimp (disch:=omega) only[wpS,Nat.reduceEqDiff,q1,q3',q2.1.len sl25]
 refine drawn [(0,[5])] (by kernel_rfl) (by kernel_rfl) rfl ?_
 simp -dsimp (disch:=omega) only[wpS,wpT,Nat.reduceEqDiff,Nat.reduceLeDiff,Nat.reduceAdd,ld91,row_of gw5,tk4',eN]
 have d0:(x0.length:Int)≠0:=by omega
 refine call (quick_ok ((len0 ll - 1:Nat):Int) (x0.length:Int) ⟨by omega,by omega⟩ ⟨by omega,by omega⟩ d0) ?_
 rintro r6 h6 ⟨X6,p6⟩
 have m6:=X6.n
 have hnB:QB 17 (((len0 ll:Nat):Int):Rat):=small_rat (by omega)
 have hn1:QB 17 (((len0 ll - 1:Nat):Int):Rat):=small_rat (by omega)
 have hn0:(((len0 ll:Nat):Int):Rat)≠0:=nat_rat_ne (by omega)
 rw[←hl0,Rat.divInt_eq_div] at p6
 have hPB:=hn1.div hnB hn0
 simp -dsimp (disch:=omega) only[wpS,Nat.reduceEqDiff]
 refine call (qtimes_ok (p5.keep X6.keep) p6 hWB hPB (by omega)) ?_
 rintro r7 h7 ⟨X7,p7⟩
 have m7:=X7.n
 rw[Rat.mul_comm] at p7
 have X67:=X6.trans X7
 simp -dsimp (disch:=omega) only[wpS,Nat.reduceEqDiff]
 refine call (rfouter_ok (hv.keep (E5.trans X67).keep) s (by omega)) ?_
 rintro r8 h8 ⟨X8,p8⟩
 have m8:=X8.n
 have X68:=X67.trans X8
 have hMB:=s.means
 simp -dsimp (disch:=omega) only[wpS,Nat.reduceEqDiff]
 refine call (qplus_ok (p7.keep X8.keep) p8 (hPB.mul hWB) hMB (by omega)) ?_
 rintro _ h9 ⟨X9,p9⟩
 have m9:=X9.n
 have X69:=X68.trans X9
 obtain⟨a9,s9,b9,t9,rfl,_,_,_,u1,_,u2,u3,u4⟩:=p9.parts
 simp -dsimp (disch:=omega) only[wpS,wpT,Nat.reduceEqDiff,Nat.reduceLeDiff,Nat.reduceAdd,zc91,st91,u1,u2,u3,u4]
 refine⟨by repeat' first|refine wpSteady_c2 ?_ ?_|refine wpSteady_t2 ?_ ?_|exact wpSteady_one rfl rfl rfl rfl (steady_ext (H0:=h5) rfl (by omega) (by assumption) (by assumption) (by with_reducible assumption)),?_⟩
 obtain⟨K1,hK1⟩ : ∃H3,H3=(h9.new (.cells ZR 0 none)).put h9.n (.cells [a9,s9,b9,t9] 0 none):=⟨_,rfl⟩
 have ea:Ext h9 K1:=by rw[hK1];exact((Ext.refl _).new _).put (Nat.le_refl _) _
 have na:K1.n=h9.n+1:=by rw[hK1];rfl
 have gp:K1.ext.get h9.n=some (.cells [a9,s9,b9,t9] 0 none):=by rw[hK1];simp (disch:=first|omega|(simp only[new_n,put_n];omega)|(repeat first|rw[new_n]|rw[put_n])) only[get_put_same]
 have pa:=p9.keep ea.keep
 have Xa:=X69.trans ea
 have gwa:=Xa.kept (by omega) gw5
 have ka:=Xa.kept (by omega) k5
 have Ea:=E5.trans Xa
 have pw:=p5.keep Xa.keep
 rw[←hK1]
 clear hK1
 simp -dsimp (disch:=omega) only[wpS,wpT,Nat.reduceEqDiff,Nat.reduceLeDiff,Nat.reduceAdd,ld91,row_of gp,row_of gwa,tk4']
 refine call (qover_ok pa pw ((hPB.mul hWB).add hMB) hWB (by omega) hw0) ?_
 rintro re he1 ⟨Xe,pe⟩
 have me:=Xe.n
 simp -dsimp (disch:=omega) only[wpS,Nat.reduceEqDiff]
 refine call (refout_ok pe) ?_
 rintro _ hf1 ⟨Xf,rfl⟩
 have mf:=Xf.n
 have hres:qratioV ll=((((len0 ll - 1:Nat):Int):Rat) / (((len0 ll:Nat):Int):Rat)*W+qmeansV ll) / W:=by rw[hW];rfl
 rw[hres]
 obtain⟨n,d,e,hf⟩:=toldV_form (((((len0 ll - 1:Nat):Int):Rat) / (((len0 ll:Nat):Int):Rat)*W+qmeansV ll) / W)
 have hf':=hf
 unfold toldV at hf'
 rw[hf',hf]
 have kg:=Xf.kept (by omega) (Xe.kept (by omega) ka)
 simp -dsimp (disch:=omega) only[wpS,wpT,Nat.reduceEqDiff,Nat.reduceLeDiff,Nat.reduceAdd,st30,ld30,kg,shV_cells,shC_len,shC_all,sh_sp3,sh_take]
 exact⟨((Ea.trans Xe).trans Xf).put (by omega) _,rfl⟩
end Go.Id

/-! Contracts: package diagnose: Stuck. -/
namespace Go.Id
open Go
def nowAt (l:List (Nat×Nat)):Nat→Nat
 | 0=>0
 | i+1=>if 0<i∧l[i]?≠l[i - 1]? then 1 else nowAt l i+1
def mostAt (l:List (Nat×Nat)):Nat→Nat
 | 0=>0
 | i+1=>max (mostAt l i) (nowAt l (i+1))
theorem nowAt_le (l:List (Nat×Nat)) : ∀i,nowAt l i≤i
 | 0=>Nat.le_refl _
 | i+1=>by
  have:=nowAt_le l i
  rw[nowAt];split<;>omega
theorem mostAt_le (l:List (Nat×Nat)) : ∀i,mostAt l i≤i
 | 0=>Nat.le_refl _
 | i+1=>by
  have:=mostAt_le l i
  have:=nowAt_le l (i+1)
  rw[mostAt];omega
def stuckRes (l:List (Nat×Nat)):Value:=if chErr l=0 then .tuple #[KN (mostAt l l.length),KI 0] else .tuple #[KI 0,KI (chErr l)]
set_option maxHeartbeats 1000000 in
theorem dgStuck_ok {h:IH} {v:Value} {l:List (Nat×Nat)} (hv:ShSl h v l) :
  WV Proofs.Tryz.prog (.func (.func 22) #[] #[]) [v] h fun r h'=>Ext h h'∧r=stuckRes l:=by
 have her:=chErr_range l
 refine enter (nt:=39) (rs:=[.tmp 2,.tmp 3]) Proofs.Tryz.func22 rfl rfl rfl (by simp) ?_
 simp -dsimp (maxSteps:=1000000) (disch:=first|omega|(simp only[new_n,put_n];omega)|decide +kernel|(repeat first|rw[new_n]|rw[put_n])) only[wpS,Nat.reduceEqDiff]
 refine call (dgcheck_ok hv) ?_
 rintro _ h1 ⟨X1,rfl⟩
 unfold stuckRes
 by_cases he:chErr l=0
 case neg =>
  rw[if_neg he]
  have he':(chErr l == 0)=false:=by simpa using he
  simp -dsimp (maxSteps:=1000000) (disch:=first|omega|(simp only[new_n,put_n];omega)|decide +kernel|(repeat first|rw[new_n]|rw[put_n])) only[wpS,wpT,Nat.reduceEqDiff]
  exact X1
 rw[if_pos he,he]
 obtain⟨e1,e2,e3⟩:=chErr_iff.1 he
 simp -dsimp (maxSteps:=1000000) (disch:=first|omega|(simp only[new_n,put_n];omega)|decide +kernel|(repeat first|rw[new_n]|rw[put_n])) only[wpS,wpT,Nat.reduceEqDiff,hv.1.len sl25]
 refine loop (fun m fr hh => ∃i:Nat,i+m=l.length∧Ext h hh∧fget fr 0=some v∧fget fr 5=some (KN (mostAt l i))∧fget fr 6=some (KN (nowAt l i))∧fget fr 14=some v∧fget fr 15=some (KN l.length)∧fget fr 16=some (KN i)) l.length
  ⟨0,by omega,X1,by simp,by simp[mostAt],by simp[nowAt],by simp,by simp,by simp⟩ ?_
 rintro m fr hh ⟨i,him,hE,f0,f5,f6,f14,f15,f16⟩
 simp -dsimp (maxSteps:=1000000) (disch:=first|omega|(simp only[new_n,put_n];omega)|decide +kernel|(repeat first|rw[new_n]|rw[put_n])) only[wpS,f15,f16]
 refine bq_intro ?_ ?_<;>intro hc<;>simp only[decide_eq_true_eq,decide_eq_false_iff_not] at hc
 ·have hi:i<l.length:=by omega
  obtain⟨p,hp⟩ : ∃p,l[i]?=some p:=⟨_,List.getElem?_eq_getElem hi⟩
  obtain⟨w1,w2⟩:=hv.2.2 p (List.mem_of_getElem? hp)
  have nl:=nowAt_le l i
  have ml:=mostAt_le l i
  have nl1:=nowAt_le l (i+1)
  have fin : ∀(n':Nat),n'+1=nowAt l (i+1)→(if (mostAt l i:Int)<((n':Int)+1) then ((n':Int)+1) else (mostAt l i:Int))=((mostAt l (i+1):Nat):Int):=by
   intro n' hn'
   rw[mostAt,←hn']
   split<;>omega
  have x1:Ext hh ((hh.new (.cells Z16 0 none)).put hh.n (.cells (shC p.1 p.2) 0 none)):=((Ext.refl _).new _).put (Nat.le_refl _) _
  simp -dsimp (maxSteps:=1000000) (disch:=first|omega|(simp only[new_n,put_n];omega)|decide +kernel|(repeat first|rw[new_n]|rw[put_n])) only[wpS,wpT,Nat.reduceEqDiff,Nat.reduceLeDiff,Nat.reduceAdd,zc30,st30,f14,f16,hv.1.idx es25 hi,hv.ld hE.keep hp,shV_cells,shC_len,shC_all,sh_sp3]
  by_cases h0:i=0
  ·subst h0
   have n0:nowAt l (0+1)=0+1:=by rw[nowAt,if_neg (by omega)];rfl
   have n00:nowAt l 0=0:=rfl
   rw[n00] at f6
   have:=fin 0 n0.symm
   simp -dsimp (maxSteps:=1000000) (disch:=first|omega|(simp only[new_n,put_n];omega)|decide +kernel|(repeat first|rw[new_n]|rw[put_n])) only[wpS,wpT,Nat.reduceEqDiff,f5,f6,f16,max_ii,this]
   exact⟨m - 1,by omega,0+1,by omega,hE.trans x1,by simp[f0],by simp,by simp[n0],by simp[f14],by simp[f15],by simp⟩
  ·obtain⟨q,hq⟩ : ∃p,l[i - 1]?=some p:=⟨_,List.getElem?_eq_getElem (by omega)⟩
   obtain⟨w3,w4⟩:=hv.2.2 q (List.mem_of_getElem? hq)
   have c0:decide ((0:Int)<(i:Int))=true:=decide_eq_true (by omega)
   have ei:(i:Int) - 1=((i - 1:Nat):Int):=by omega
   have hne : ∀ox oy,binop Proofs.Tryz.prog .neq 30 ox oy (.agg (shC p.1 p.2).toArray) (shV q.1 q.2)=some (.bool (!decide (p.1=q.1∧p.2=q.2))):=fun ox oy=>sh_neq w1 w2 w3 w4 ox oy
   have hpq:(p.1=q.1∧p.2=q.2)↔l[i]?=l[i - 1]?:=by
    rw[hp,hq,Option.some.injEq]
    exact Prod.ext_iff.symm
   by_cases hd:p.1=q.1∧p.2=q.2
   ·have n1:nowAt l (i+1)=nowAt l i+1:=by rw[nowAt,if_neg (fun h=>h.2 (hpq.1 hd))]
    have:=fin _ n1.symm
    rw[decide_eq_true hd] at hne
    simp -dsimp (maxSteps:=1000000) (disch:=first|omega|(simp only[new_n,put_n];omega)|decide +kernel|(repeat first|rw[new_n]|rw[put_n])) only[wpS,wpT,Nat.reduceEqDiff,Nat.reduceLeDiff,ld30,f0,f5,f6,f16,c0,ei,shC_len,sh_take,hv.1.idx es25 (show i - 1<l.length by omega),hv.ld (hE.trans x1).keep hq,hne,max_ii,this]
    exact⟨m - 1,by omega,i+1,by omega,hE.trans x1,by simp[f0],by simp,by simp[n1],by simp[f14],by simp[f15],by simp⟩
   ·have n1:nowAt l (i+1)=0+1:=by rw[nowAt,if_pos ⟨by omega,fun h=>hd (hpq.2 h)⟩]
    have:=fin 0 n1.symm
    rw[show((0:Nat):Int)+1=1 from rfl] at this
    rw[decide_eq_false hd] at hne
    simp -dsimp (maxSteps:=1000000) (disch:=first|omega|(simp only[new_n,put_n];omega)|decide +kernel|(repeat first|rw[new_n]|rw[put_n])) only[wpS,wpT,Nat.reduceEqDiff,Nat.reduceLeDiff,ld30,f0,f5,f6,f16,c0,ei,shC_len,sh_take,hv.1.idx es25 (show i - 1<l.length by omega),hv.ld (hE.trans x1).keep hq,hne,max_ii]
    exact⟨m - 1,by omega,i+1,by omega,hE.trans x1,by simp[f0],by simp[this],by simp[n1],by simp[f14],by simp[f15],by simp⟩
 ·obtain rfl:i=l.length:=by omega
  simp -dsimp (maxSteps:=1000000) (disch:=first|omega|(simp only[new_n,put_n];omega)|decide +kernel|(repeat first|rw[new_n]|rw[put_n])) only[wpS,wpT,Nat.reduceEqDiff,f5]
  exact hE
end Go.Id

/-! Contracts: the reference's Stuck. -/
namespace Go.Id
open Go
end Go.Id

/-! Contracts of package diagnose and of its reference for lists of shares of any parts. -/
namespace Go.Id
open Go
theorem qb512 {p:Nat×Nat} (h1:p.1<W8) (h2:p.2<W8) (ok:okS p.1 p.2):QB 512 (rOf p):=by
 obtain⟨e1,e2⟩:=rOf_parts ok
 have hw:W8=2 ^ 512:=by decide +kernel
 have a1:=wdI_small h1
 unfold QB
 have k1:(wdI p.1).natAbs≤2 ^ 512:=by
  rw[←hw]
  unfold wdI
  have:=H8_two
  split<;>omega
 have k2:wdI p.2≤((2 ^ 512:Nat):Int):=by
  rw[←hw]
  unfold wdI
  have:=H8_two
  split<;>omega
 generalize (2 ^ 512:Nat)=B at *
 refine⟨by rw[e1];exact k1,by omega⟩
theorem ShSl.qb {h:IH} {v:Value} {l:List (Nat×Nat)} (s:ShSl h v l):allOk l → ∀q∈l.map rOf,QB 512 q:=by
 intro ok q hq
 obtain⟨p,hp,rfl⟩:=List.mem_map.1 hq
 exact qb512 (s.2.2 p hp).1 (s.2.2 p hp).2 (ok p hp)
theorem mB {n:Nat}:n≤200→mBits n 512<16000000:=fun h=>by
 unfold mBits;omega
def Fit (n:Nat):Prop:=n≤12∨200<n
theorem eB {n:Nat} (f:Fit n):n≤200→eBits n 512+eBits n 512+100<16000000:=fun h=>by
 have h12:n≤12:=by rcases f with f|f<;>omega
 have : ∀m,m≤12→eBits m 512+eBits m 512+100<16000000:=by decide
 exact this n h12
theorem aB {n:Nat} (f:Fit n):n≤200→aBits n 512<16000000:=fun h=>by
 have h12:n≤12:=by rcases f with f|f<;>omega
 have : ∀m,m≤12→aBits m 512<16000000:=by decide
 exact this n h12
section
variable {h:IH} {v:Value} {l:List (Nat×Nat)} (hv:ShSl h v l)
include hv
theorem gMean:WV Proofs.Tryz.prog (.func (.func 21) #[] #[]) [v] h fun r h'=>Ext h h'∧r=meanRes l:=dgMean_ok hv hv.qb mB
theorem rMean:WV Proofs.Tryz.prog (.func (.func 28) #[] #[]) [v] h fun r h'=>Ext h h'∧r=meanRes l:=rfMean_ok hv hv.qb mB
theorem gAuto (f:Fit l.length) (lag:Int):WV Proofs.Tryz.prog (.func (.func 23) #[] #[]) [v,KI lag] h fun r h'=>Ext h h'∧r=autoRes l lag:=dgAuto_ok hv hv.qb (aB f)
theorem rAuto (f:Fit l.length) (lag:Int):WV Proofs.Tryz.prog (.func (.func 31) #[] #[]) [v,KI lag] h fun r h'=>Ext h h'∧r=autoRes l lag:=rfAuto_ok hv hv.qb (aB f)
theorem gEff (f:Fit l.length):WV Proofs.Tryz.prog (.func (.func 29) #[] #[]) [v] h fun r h'=>Ext h h'∧r=effRes l:=dgEff_ok hv hv.qb (eB f)
theorem rEff (f:Fit l.length):WV Proofs.Tryz.prog (.func (.func 30) #[] #[]) [v] h fun r h'=>Ext h h'∧r=effRes l:=rfEff_ok hv hv.qb (eB f)
theorem gBat (size:Int):WV Proofs.Tryz.prog (.func (.func 20) #[] #[]) [v,KI size] h fun r h'=>Ext h h' ∧ ∃s,r=.tuple #[s,KI (batErr l size)]∧if batErr l size=0 then ShSl h' s ((bmeans (l.map rOf) size.toNat).map shOf) else s=.slice none 0 0:=dgBatches_ok hv hv.qb mB
end
theorem QW_of {q:Rat} (h:(decide (-(H8:Int)≤q.num) && decide (q.num<H8) && decide ((q.den:Int)<H8))=true):QW q:=by
 simp only[Bool.and_eq_true,decide_eq_true_eq] at h
 exact⟨⟨h.1.1,h.1.2⟩,by unfold InW;omega⟩
theorem toldV_of {q:Rat} (h:QW q):toldV q=.tuple #[shareV q,KI 0]:=by
 unfold toldV;rw[if_pos h]
theorem meanRes_of {l:List (Nat×Nat)} {q:Rat} (h1:chErr l=0) (h2:qmean (l.map rOf)=q) (h3:QW q):meanRes l=.tuple #[shareV q,KI 0]:=by
 unfold meanRes;rw[if_pos h1,h2,toldV_of h3]
theorem autoRes_of {l:List (Nat×Nat)} {q:Rat} {lag:Nat} (h1:chErr l=0) (h0:lag<l.length) (h2:qauto (l.map rOf) (qmean (l.map rOf)) lag=q) (h3:QW q):autoRes l (lag:Int)=.tuple #[shareV q,KI 0]:=by
 unfold autoRes;rw[if_pos h1,if_pos ⟨by omega,by omega⟩,Int.toNat_natCast,h2,toldV_of h3]
theorem autoRes_no {l:List (Nat×Nat)} {lag:Int} (h1:chErr l=0) (h0 : ¬(0≤lag∧lag<l.length)):autoRes l lag=errV 2:=by
 unfold autoRes;rw[if_pos h1,if_neg h0]
theorem effRes_of {l:List (Nat×Nat)} {q:Rat} (h1:chErr l=0) (h0:qauto (l.map rOf) (qmean (l.map rOf)) 0≠0) (h2:qeff (l.map rOf)=q) (h3:QW q):effRes l=.tuple #[shareV q,KI 0]:=by
 unfold effRes;rw[if_pos h1,if_neg h0,h2,toldV_of h3]
theorem effRes_no {l:List (Nat×Nat)} (h1:chErr l=0) (h0:qauto (l.map rOf) (qmean (l.map rOf)) 0=0):effRes l=errV 7:=by
 unfold effRes;rw[if_pos h1,if_pos h0]
end Go.Id

/-! Contracts: what the law's examples use. -/
namespace Go.Id
open Go
structure IsC (h:IH) (i j:Nat) (a b:Int):Prop where
 hi:i<h.n
 hj:j<h.n
 gi:h.ext.get i=some (.cells [KI a] 0 none)
 gj:h.ext.get j=some (.cells [KI b] 0 none)
theorem IsC.ext {h h':IH} {i j:Nat} {a b:Int} (c:IsC h i j a b) (e:Ext h h'):IsC h' i j a b:=⟨Nat.lt_of_lt_of_le c.hi e.n,Nat.lt_of_lt_of_le c.hj e.n,e.kept c.hi c.gi,e.kept c.hj c.gj⟩
abbrev isV (i j:Nat):Value:=.func (.func 88) #[] #[ptr (2*i) 0,ptr (2*j) 0]
abbrev failsV (i:Nat):Value:=.func (.func 87) #[] #[ptr (2*i) 0]
theorem isC_ok {h:IH} (a b:Int):WV Proofs.Tryz.prog (.func (.func 36) #[] #[]) [KI a,KI b] h fun r h'=>Ext h h' ∧ ∃i j,r=isV i j∧IsC h' i j a b:=by
 refine(is_ok a b).mono ?_
 rintro _ _ ⟨rfl,rfl⟩
 refine⟨((Ext.refl h).new _).new _,h.n,h.n+1,rfl,?_⟩
 refine⟨by simp<;>omega,by simp,?_,?_⟩<;>simp (disch:=first|omega|(simp only[new_n,put_n];omega)|(repeat first|rw[new_n]|rw[put_n])) only[get_new_same,get_new_old]
theorem isT_ok {h:IH} {i j:Nat} {a b:Int} {q:Rat} (c:IsC h i j a b) (hq:Rat.divInt a b=q) (ha:In64 a) (hb:In64 b) (b0:b≠0):WV Proofs.Tryz.prog (isV i j) [shareV q,KI 0] h fun r h'=>Ext h h'∧r=.bool true:=by
 obtain⟨h1,h2⟩:=shq_lt (qw_div ha hb b0)
 rw[hq] at h1 h2
 refine(is1_ok (n:=(shq q).1) (d:=(shq q).2) (e:=0) h1 h2 ha hb b0 c.hi c.gi c.hj c.gj).mono ?_
 rintro _ h' ⟨X,rfl⟩
 exact⟨X,by rw[hq];simp⟩
structure FaC (h:IH) (i:Nat) (e:Int):Prop where
 hi:i<h.n
 gi:h.ext.get i=some (.cells [KI e] 0 none)
theorem FaC.ext {h h':IH} {i:Nat} {a:Int} (c:FaC h i a) (e:Ext h h'):FaC h' i a:=⟨Nat.lt_of_lt_of_le c.hi e.n,e.kept c.hi c.gi⟩
theorem faC_ok {h:IH} (a:Int):WV Proofs.Tryz.prog (.func (.func 35) #[] #[]) [KI a] h fun r h'=>Ext h h' ∧ ∃i,r=failsV i∧FaC h' i a:=by
 refine(fails_ok a).mono ?_
 rintro _ _ ⟨rfl,rfl⟩
 refine⟨(Ext.refl h).new _,h.n,rfl,?_⟩
 refine⟨by simp,?_⟩
 simp (disch:=first|omega|(simp only[new_n,put_n];omega)|(repeat first|rw[new_n]|rw[put_n])) only[get_new_same]
theorem faT_ok {h:IH} {i:Nat} {a:Int} (c:FaC h i a):WV Proofs.Tryz.prog (failsV i) [shV 0 0,KI a] h fun r h'=>Ext h h'∧r=.bool true:=by
 refine(fails1_ok (n:=0) (d:=0) (e:=a) (by decide +kernel) (by decide +kernel) c.hi c.gi).mono ?_
 rintro _ h' ⟨X,rfl⟩
 exact⟨X,by simp⟩
theorem lawl_blk {h:IH} (xs:List Int) (hx : ∀x∈xs,In64 x) (hl:xs.length≤1000) (h0:0<xs.length):WV Proofs.Tryz.prog (.func (.func 45) #[] #[]) [.slice (some ⟨2*h.n,0,none⟩) xs.length (2*xs.length+1)] (h.new (.cells (xs.map KI) 1 none)) fun r h'=>Ext h h'∧ShSl h' r (xs.map shI):=by
 refine(lawl_ok (xs:=xs) (sl_block (k:=h.n) (f:=none) (get_new_same _ _ rfl) (by simp) (by decide) (by simp) (by omega) (by omega)) hx hl).mono ?_
 rintro r h' ⟨X,s⟩
 exact⟨((Ext.refl h).new _).trans X,s⟩
theorem build2 {h:IH} (a b c d:Nat):buildSlice Proofs.Tryz.prog h 25 2 [(0,shV a b),(1,shV c d)]=some (.slice (some ⟨2*h.n,0,none⟩) 2 5,h.new (.cells (shL [(a,b),(c,d)]) 16 none)):=by
 rw[bs25 h 2 _ (by decide)]
 have e:fillP (fun i=>some (i*16,16)) (repl 2 [.int .u64 0,.int .u64 0,.int .u64 0,.int .u64 0,.int .u64 0,.int .u64 0,.int .u64 0,.int .u64 0,.int .u64 0,.int .u64 0,.int .u64 0,.int .u64 0,.int .u64 0,.int .u64 0,.int .u64 0,.int .u64 0]) [(0,shV a b),(1,shV c d)]=some (shL [(a,b),(c,d)]):=by kernel_rfl
 rw[e];rfl
theorem shLs_two {h:IH} {w1 w2:Value} {x1 x2:List (Nat×Nat)} (s1:ShSl h w1 x1) (s2:ShSl h w2 x2):ShLs (h.new (.cells [w1,w2] 1 none)) (.slice (some ⟨2*h.n,0,none⟩) 2 5) [x1,x2]:=by
 have E:Ext h (h.new (.cells [w1,w2] 1 none)):=(Ext.refl h).new _
 refine⟨[w1,w2],sl_block (k:=h.n) (f:=none) (get_new_same _ _ rfl) (by simp) (by decide) (by simp) (by omega) (by omega),by simp,?_⟩
 intro i x hx
 match i,hx with
 | 0,hx=>simp at hx;subst hx;exact⟨w1,rfl,s1.keep E.keep⟩
 | 1,hx=>simp at hx;subst hx;exact⟨w2,rfl,s2.keep E.keep⟩
 | i+2,hx=>simp at hx
theorem shLs_one {h:IH} {w1:Value} {x1:List (Nat×Nat)} (s1:ShSl h w1 x1):ShLs (h.new (.cells [w1] 1 none)) (.slice (some ⟨2*h.n,0,none⟩) 1 3) [x1]:=by
 have E:Ext h (h.new (.cells [w1] 1 none)):=(Ext.refl h).new _
 refine⟨[w1],sl_block (k:=h.n) (f:=none) (get_new_same _ _ rfl) (by simp) (by decide) (by simp) (by omega) (by omega),by simp,?_⟩
 intro i x hx
 match i,hx with
 | 0,hx=>simp at hx;subst hx;exact⟨w1,rfl,s1.keep E.keep⟩
 | i+1,hx=>simp at hx
theorem ShLs.ext {h h':IH} {v:Value} {ll:List (List (Nat×Nat))} (s:ShLs h v ll) (e:Ext h h'):ShLs h' v ll:=by
 obtain⟨vs,a,b,c⟩:=s
 refine⟨vs,a.ext e,b,fun i x hx=>?_⟩
 obtain⟨w,h1,h2⟩:=c i x hx
 exact⟨w,h1,h2.keep e.keep⟩
def FitL (ll:List (List (Nat×Nat))):Prop:=svErr ll=0→len0 ll≤12∧ll.length≤8
theorem ShLs.sv {h:IH} {v:Value} {ll:List (List (Nat×Nat))} (s:ShLs h v ll) (e:svErr ll=0):SvOk ll 512:=by
 refine⟨e,fun x hx q hq=>?_⟩
 obtain⟨_,_,hh⟩:=sv_zero e
 obtain⟨h1,h2,h3,h4⟩:=hh x hx
 obtain⟨vs,a,b,c⟩:=s
 obtain⟨i,hi⟩:=List.mem_iff_getElem?.1 hx
 obtain⟨w,_,s2⟩:=c i x hi
 exact s2.qb (by assumption) q hq
end Go.Id
