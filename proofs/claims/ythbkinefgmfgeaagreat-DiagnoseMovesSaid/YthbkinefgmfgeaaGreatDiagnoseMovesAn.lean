/-
  Contracts: package diagnose: what is wrong with several chains. Contracts: the reference's chapter 35: what is wrong with several chains. Contracts: the reference's chapter 35: autocovariances, Mean, Auto. Contracts: package diagnose: the variance within. Contracts: package diagnose: the variance within, and that of the means. Contracts: package diagnose: Effective. Contracts: the reference's chapter 35: spreads. Contracts: the reference's chapter 35: Mean, Auto. Contracts: the reference's chapter 35: the variance within, and that of the means. Contracts: package diagnose: Within, Means, Ratio. Contracts: the reference's chapter 35: Within, Means.
-/
import Derived.Test.YthbkinefgmfgeaaGreatDiagnoseMovesAk
import Derived.Test.YthbkinefgmfgeaaGreatDiagnoseMovesAm
import Derived.Test.YthbkinefgmfgeaaGreatDiagnoseMovesAl
set_option linter.unusedVariables false
set_option linter.unusedSimpArgs false
set_option linter.defProp false
set_option linter.deprecated false
/-! Contracts: package diagnose: what is wrong with several chains. -/
namespace Go.Id
open Go
def ShLs (h:IH) (v:Value) (ll:List (List (Nat×Nat))):Prop:=∃vs:List Value,SlOf h 1 v ll.length vs∧ll.length<1152921504606846976 ∧ ∀(i:Nat) (x:List (Nat×Nat)),ll[i]?=some x → ∃w,vs[i]?=some w∧ShSl h w x
theorem ShLs.keep {h h':IH} {v:Value} {ll:List (List (Nat×Nat))} (s:ShLs h v ll) (e:Keep h h'):ShLs h' v ll:=by
 obtain⟨vs,a,b,c⟩:=s
 refine⟨vs,a.keep e,b,fun i x hx=>?_⟩
 obtain⟨w,h1,h2⟩:=c i x hx
 exact⟨w,h1,h2.keep e⟩
theorem ShLs.at {h h':IH} {v:Value} {ll:List (List (Nat×Nat))} (s:ShLs h v ll) (e:Keep h h') {i:Nat} {x:List (Nat×Nat)} (hx:ll[i]?=some x) :
  ∃w,load Proofs.Tryz.prog h' 25 (elemAddr v i)=some w∧ShSl h' w x ∧ ∀k:IntKind,indexAddr Proofs.Tryz.prog 22 v (.int k (i:Int))=some (elemAddr v i):=by
 obtain⟨vs,a,b,c⟩:=s
 obtain⟨w,h1,h2⟩:=c i x hx
 have hi:=(List.getElem?_eq_some_iff.1 hx).1
 refine⟨w,?_,h2.keep e,fun k=>by rw[a.idx es22 hi,Nat.mul_one]⟩
 rw[a.ld e (by rw[a.2.1];omega) ag25]
 exact h1
theorem ShLs.co {h:IH} {v:Value} {ll:List (List (Nat×Nat))} (s:ShLs h v ll):v.cells = #[v]∧cellOK v=true ∧ ∀h',lenB Proofs.Tryz.prog h' 22 v=some (.int .i64 ll.length):=by
 obtain⟨vs,a,_⟩:=s
 exact⟨a.cells,a.cok,fun h'=>a.len sl22 h'⟩
theorem ShSl.co {h:IH} {v:Value} {l:List (Nat×Nat)} (s:ShSl h v l):v.cells = #[v]∧cellOK v=true:=⟨s.1.cells,s.1.cok⟩
set_option maxHeartbeats 1000000 in
theorem lscontains_ok {h:IH} {v F:Value} {ll:List (List (Nat×Nat))} (hv:ShLs h v ll) (p:List (Nat×Nat)→Bool) (hF : ∀h1 w x,Ext h h1→ShSl h1 w x→x∈ll→WV Proofs.Tryz.prog F [w] h1 fun r h2=>Ext h1 h2∧r=.bool (p x)) :
  WV Proofs.Tryz.prog (.func (.func 104) #[] #[]) [v,F] h fun r h'=>Ext h h'∧r=.bool (ll.any p):=by
 obtain⟨_,_,hlen⟩:=hv.co
 have hlb:=hv.choose_spec.2.1
 have hidx:WV Proofs.Tryz.prog (.func (.func 145) #[] #[]) [v,F] h fun r h'=>Ext h h' ∧ ∃c:Int,r=KI c∧decide (0≤c)=ll.any p:=by
  refine enter (nt:=19) (rs:=[.tmp 4]) Proofs.Tryz.func145 rfl rfl rfl (by simp) ?_
  simp -dsimp (disch:=omega) only[wpS,Nat.reduceEqDiff,Nat.reduceAdd,hlen]
  refine loop (fun m fr h1 => ∃i:Nat,i+m=ll.length∧Ext h h1∧(∀j x,j<i→ll[j]?=some x→p x=false)∧fget fr 0=some v∧fget fr 1=some F∧fget fr 7=some (KN ll.length)∧fget fr 8=some (KN i)) ll.length
   ⟨0,by omega,Ext.refl _,fun j x hj=>by omega,by simp,by simp,by simp,by simp⟩ ?_
  rintro m fr h1 ⟨i,him,hE,hno,f0,f1,f7,f8⟩
  simp -dsimp (disch:=omega) only[wpS,f7,f8]
  refine bq_intro ?_ ?_<;>intro hc<;>simp only[decide_eq_true_eq,decide_eq_false_iff_not] at hc
  ·have hi:i<ll.length:=by omega
   obtain⟨x,hx⟩ : ∃x,ll[i]?=some x:=⟨_,List.getElem?_eq_getElem hi⟩
   have hxm:=List.mem_of_getElem? hx
   obtain⟨w,l1,l2,l3⟩:=hv.at hE.keep hx
   simp -dsimp (disch:=omega) only[wpS,wpT,Nat.reduceEqDiff,f0,f1,f8,l1,l3]
   refine call (hF h1 w x hE l2 hxm) ?_
   rintro _ h2 ⟨hE2,rfl⟩
   have E2:=hE.trans hE2
   cases hp:p x with
   | false =>
    simp -dsimp (disch:=omega) only[wpS,Nat.reduceEqDiff,f8]
    refine⟨m - 1,by omega,i+1,by omega,E2,?_,by simp[f0],by simp[f1],by simp[f7],by simp⟩
    intro j q hj hq
    by_cases hji:j=i
    ·subst hji;rw[hx] at hq;cases hq;exact hp
    ·exact hno j q (by omega) hq
   | true =>
    simp -dsimp (disch:=omega) only[wpS,Nat.reduceEqDiff]
    refine⟨E2,(i:Int),rfl,?_⟩
    rw[decide_eq_true (by omega)]
    exact(List.any_eq_true.2 ⟨x,hxm,hp⟩).symm
  ·simp -dsimp (disch:=omega) only[wpS,wpT]
   refine⟨hE,-1,rfl,?_⟩
   rw[decide_eq_false (by omega)]
   symm
   rw[Bool.eq_false_iff]
   intro hany
   obtain⟨x,hxm,hp⟩:=List.any_eq_true.1 hany
   obtain⟨j,hj⟩:=List.getElem?_of_mem hxm
   have:=(List.getElem?_eq_some_iff.1 hj).1
   have:=hno j x (by omega) hj
   rw[hp] at this;cases this
 refine enter (nt:=9) (rs:=[.tmp 4]) Proofs.Tryz.func104 rfl rfl rfl (by simp) ?_
 simp -dsimp (disch:=omega) only[wpS,Nat.reduceEqDiff,Nat.reduceAdd]
 refine call hidx ?_
 rintro _ h1 ⟨hE,c,rfl,hc⟩
 simp -dsimp (disch:=omega) only[wpS,wpT,Nat.reduceEqDiff,hc]
 exact hE
theorem sev1_ok {h:IH} {v:Value} {l:List (Nat×Nat)} (hv:ShSl h v l):WV Proofs.Tryz.prog (.func (.func 105) #[] #[]) [v] h fun r h'=>Ext h h'∧r=.bool (decide (200<l.length)):=by
 refine enter (nt:=6) (rs:=[.tmp 2]) Proofs.Tryz.func105 rfl rfl rfl (by simp) ?_
 simp -dsimp (disch:=omega) only[wpS,Nat.reduceEqDiff,hv.1.len sl25]
 refine⟨Ext.refl _,?_⟩
 rw[decide_eq_decide.2]
 omega
def len0 (ll:List (List (Nat×Nat))):Nat:=(ll.getD 0 []).length
theorem sev2_ok {h:IH} {v vv:Value} {b:Nat} {l:List (Nat×Nat)} {ll:List (List (Nat×Nat))} (hv:ShSl h v l) (hvv:ShLs h vv ll) (hb:h.ext.get b=some (.cells [vv] 0 none)) (h0:0<ll.length) :
  WV Proofs.Tryz.prog (.func (.func 107) #[] #[ptr (2*b) 0]) [v] h fun r h'=>Ext h h'∧r=.bool (decide (l.length<2∨l.length≠len0 ll)):=by
 obtain⟨x,hx⟩ : ∃x,ll[0]?=some x:=⟨_,List.getElem?_eq_getElem h0⟩
 obtain⟨w,l1,l2,l3⟩:=hvv.at (Keep.refl _) hx
 have e0:len0 ll=x.length:=by rw[len0,List.getD_eq_getElem?_getD,hx];rfl
 rw[e0]
 have l3':indexAddr Proofs.Tryz.prog 22 vv (.int .i64 0)=some (elemAddr vv 0):=l3 .i64
 have hr:=row_of hb
 refine enter (nt:=16) (rs:=[.tmp 3]) Proofs.Tryz.func107 rfl rfl rfl (by simp) ?_
 by_cases h2:l.length<2
 ·have c1:decide ((l.length:Int)<2)=true:=decide_eq_true (by omega)
  simp -dsimp (disch:=omega) only[wpS,wpT,Nat.reduceEqDiff,Nat.reduceAdd,hv.1.len sl25,c1]
  exact⟨Ext.refl _,by rw[decide_eq_true (Or.inl h2)]⟩
 ·have c1:decide ((l.length:Int)<2)=false:=decide_eq_false (by omega)
  simp -dsimp (disch:=omega) only[wpS,wpT,Nat.reduceEqDiff,Nat.reduceAdd,ld22,hv.1.len sl25,c1,hr,l3',l1,l2.1.len sl25]
  refine⟨Ext.refl _,?_⟩
  by_cases hne:l.length=x.length
  ·rw[decide_eq_false (by omega)];simp;omega
  ·rw[decide_eq_true (Or.inr hne)];simp;omega
def svErr (ll:List (List (Nat×Nat))):Int:=if 8<ll.length∨ll.any (fun x=>decide (200<x.length))=true then 3 else if ll.any (fun x=>decide (¬allOk x))=true then 20 else if ll.length<2∨ll.any (fun x=>decide (x.length<2∨x.length≠len0 ll))=true then 5 else 0
set_option maxHeartbeats 1000000 in
theorem several_ok {h:IH} {v:Value} {ll:List (List (Nat×Nat))} (hv:ShLs h v ll):WV Proofs.Tryz.prog (.func (.func 51) #[] #[]) [v] h fun r h'=>Ext h h'∧r=KI (svErr ll):=by
 obtain⟨vc,vo,hlen⟩:=hv.co
 have E1:Ext h (h.new (.cells [v] 0 none)):=(Ext.refl h).new _
 have g1:(h.new (.cells [v] 0 none)).ext.get h.n=some (.cells [v] 0 none):=by simp (disch:=first|omega|(simp only[new_n,put_n];omega)|(repeat first|rw[new_n]|rw[put_n])) only[get_new_same]
 unfold svErr
 refine enter (nt:=20) (rs:=[.tmp 2]) Proofs.Tryz.func51 rfl rfl rfl (by simp) ?_
 by_cases h8:8<ll.length
 ·have c1:decide ((8:Int)<(ll.length:Int))=true:=decide_eq_true (by omega)
  rw[if_pos (.inl h8)]
  simp -dsimp (disch:=omega) only[wpS,wpT,Nat.reduceEqDiff,ld22,vc,hlen,c1]
  exact E1
 have c1:decide ((8:Int)<(ll.length:Int))=false:=decide_eq_false (by omega)
 simp -dsimp (disch:=omega) only[wpS,wpT,Nat.reduceEqDiff,ld22,vc,hlen,c1]
 refine call (lscontains_ok (hv.keep E1.keep) (fun x=>decide (200<x.length)) fun h1 w x _ hw _=>sev1_ok hw) ?_
 rintro _ h1 ⟨X1,rfl⟩
 have m1:=X1.n
 simp only[new_n] at m1
 have k1:=X1.kept (by simp) g1
 cases ha1:ll.any (fun x=>decide (200<x.length)) with
 | true =>
  rw[if_pos (.inr rfl)]
  simp -dsimp (disch:=omega) only[wpS,wpT,Nat.reduceEqDiff]
  exact E1.trans X1
 | false =>
  rw[if_neg (by simp;omega)]
  simp -dsimp (disch:=omega) only[wpS,Nat.reduceEqDiff,ld22,row_of k1]
  refine call (lscontains_ok (hv.keep (E1.trans X1).keep) (fun x=>decide (¬allOk x)) fun h1 w x _ hw _=>wrong_ok hw) ?_
  rintro _ h2 ⟨X2,rfl⟩
  have m2:=X2.n
  have k2:=X2.kept (by omega) k1
  cases ha2:ll.any (fun x=>decide (¬allOk x)) with
  | true =>
   rw[if_pos rfl]
   simp -dsimp (disch:=omega) only[wpS,wpT,Nat.reduceEqDiff]
   exact(E1.trans X1).trans X2
  | false =>
   rw[if_neg (by simp)]
   by_cases h2:ll.length<2
   ·have c2:decide ((ll.length:Int)<2)=true:=decide_eq_true (by omega)
    rw[if_pos (.inl h2)]
    simp -dsimp (disch:=omega) only[wpS,wpT,Nat.reduceEqDiff,ld22,row_of k2,hlen,c2]
    exact(E1.trans X1).trans X2
   ·have c2:decide ((ll.length:Int)<2)=false:=decide_eq_false (by omega)
    simp -dsimp (disch:=omega) only[wpS,wpT,Nat.reduceEqDiff,ld22,row_of k2,hlen,c2]
    have hv2:=hv.keep ((E1.trans X1).trans X2).keep
    refine call (lscontains_ok hv2 (fun x=>decide (x.length<2∨x.length≠len0 ll)) fun h3 w x e hw _=>sev2_ok hw (hv2.keep e.keep) (e.kept (by omega) k2) (by omega)) ?_
    rintro _ h3 ⟨X3,rfl⟩
    cases ha3:ll.any (fun x=>decide (x.length<2∨x.length≠len0 ll)) with
    | true =>
     rw[if_pos (.inr rfl)]
     simp -dsimp (disch:=omega) only[wpS,wpT,Nat.reduceEqDiff]
     exact((E1.trans X1).trans X2).trans X3
    | false =>
     rw[if_neg (by simp;omega)]
     simp -dsimp (disch:=omega) only[wpS,wpT,Nat.reduceEqDiff]
     exact((E1.trans X1).trans X2).trans X3
end Go.Id

/-! Contracts: the reference's chapter 35: what is wrong with several chains. -/
namespace Go.Id
open Go
end Go.Id

/-! Contracts: the reference's chapter 35: autocovariances, Mean, Auto. -/
namespace Go.Id
open Go
set_option maxHeartbeats 4000000 in
theorem rfauto_ok {h:IH} {v:Value} {l:List Rat} {lag:Nat} (hv:ElSl RRat h v l) (h0:l ≠ []) (hlag:lag≤1000000) {k:Nat} (hk : ∀q∈l,QB k q) (hb:l.length*(k+(l.length*(k+1)+17)+1+(k+(l.length*(k+1)+17)+1)+1)+17<16000000) :
  WV Proofs.Tryz.prog (.func (.func 83) #[] #[]) [v,KN lag] h fun r h'=>Ext h h'∧RRat h' r (qauto l (qmean l) lag):=by
 obtain⟨cs0,hs0,_,hlen⟩:=id hv
 have hl0:0<l.length:=List.length_pos_iff.2 h0
 have hone:1*(k+(l.length*(k+1)+17)+1+(k+(l.length*(k+1)+17)+1)+1)≤l.length*(k+(l.length*(k+1)+17)+1+(k+(l.length*(k+1)+17)+1)+1):=Nat.mul_le_mul_right _ hl0
 have hc:=qmean_bits h0 hlen hk
 obtain⟨kc,hkc⟩ : ∃kc,kc=l.length*(k+1)+17:=⟨_,rfl⟩
 rw[←hkc] at hb hone hc
 obtain⟨c,hcc⟩ : ∃c,c=qmean l:=⟨_,rfl⟩
 have hQ : ∀i,i≤l.length - lag→QB (i*(k+kc+1+(k+kc+1)+1)) (qsum ((qprods l c lag).take i)):=by
  intro i hi
  refine QB.qsum (fun q hq=>?_) i (by rw[qprods_len];exact hi)
  obtain⟨t,ht,rfl⟩:=List.mem_map.1 hq
  exact qpr_bits hk (hcc▸hc) (by simp at ht;omega)
 refine enter (nt:=41) (rs:=[.cell 4 91]) Proofs.Tryz.func83 rfl rfl rfl (by simp) ?_
 simp -dsimp (disch:=omega) only[wpS,Nat.reduceEqDiff,Nat.reduceAdd,zc91]
 have E1:Ext h (h.new (.cells ZR 0 none)):=(Ext.refl h).new _
 have g1:(h.new (.cells ZR 0 none)).ext.get h.n=some (.cells ZR 0 none):=by simp (disch:=first|omega|(simp only[new_n,put_n];omega)|(repeat first|rw[new_n]|rw[put_n])) only[get_new_same]
 refine call (rfaverage_ok (hv.keep kept_q E1.keep) h0 hk (by omega)) ?_
 rintro _ h1 ⟨X1,p1⟩
 rw[←hcc] at p1 hc ⊢
 have m1:=X1.n
 simp only[new_n] at m1
 have kg:=X1.kept (by simp) g1
 obtain⟨a3,s3,b3,t3,rfl,_,_,_,o1,_,o2,o3,o4⟩:=p1.parts
 simp -dsimp (disch:=omega) only[wpS,wpT,Nat.reduceEqDiff,Nat.reduceLeDiff,Nat.reduceAdd,zc91,st91,o1,o2,o3,o4]
 obtain⟨H2,hH2⟩ : ∃H2,H2=(h1.new (.cells ZR 0 none)).put h1.n (.cells [a3,s3,b3,t3] 0 none):=⟨_,rfl⟩
 have e2:Ext h1 H2:=by rw[hH2];exact((Ext.refl _).new _).put (Nat.le_refl _) _
 have n2:H2.n=h1.n+1:=by rw[hH2];rfl
 have gm:H2.ext.get h1.n=some (.cells [a3,s3,b3,t3] 0 none):=by rw[hH2];simp (disch:=first|omega|(simp only[new_n,put_n];omega)|(repeat first|rw[new_n]|rw[put_n])) only[get_put_same]
 have p2:=p1.keep e2.keep
 rw[←hH2]
 clear hH2
 refine call (quick_ok 0 1 ⟨by omega,by omega⟩ ⟨by omega,by omega⟩ (by omega)) ?_
 rintro _ h3 ⟨X3,p3⟩
 rw[divInt_zero1] at p3
 have m3:=X3.n
 obtain⟨a4,s4,b4,t4,rfl,_,_,_,o1,_,o2,o3,o4⟩:=p3.parts
 have kg3:=X3.kept (by omega) (e2.kept (by omega) kg)
 have gm3:=X3.kept (by omega) gm
 have pm3:=p2.keep X3.keep
 have E3:=((E1.trans X1).trans e2).trans X3
 simp -dsimp (disch:=omega) only[wpS,wpT,Nat.reduceEqDiff,Nat.reduceLeDiff,Nat.reduceAdd,zc91,st91,o1,o2,o3,o4]
 have Ex3:Ext h3 ((h3.new (.cells ZR 0 none)).put h3.n (.cells [a4,s4,b4,t4] 0 none)):=((Ext.refl h3).new _).put (Nat.le_refl _) _
 refine loop_cut (fun fr hh => ∃a s b t,Ext h hh∧h3.n<hh.n∧hh.ext.get h.n=some (.cells ZR 0 none)∧hh.ext.get h3.n=some (.cells [a,s,b,t] 0 none)∧RRat hh (.agg #[a,s,b,t]) (qsum (qprods l c lag))∧fget fr 0=some v∧fget fr 4=some (ptr (2*h.n) 0)∧fget fr 6=some (ptr (2*h3.n) 0)) ?_ ?_
 ·refine loop (fun m fr hh => ∃(i:Nat) (a s b t:Value),i+m=l.length - lag∧Ext h hh∧h3.n<hh.n∧hh.ext.get h.n=some (.cells ZR 0 none)∧hh.ext.get h1.n=some (.cells [a3,s3,b3,t3] 0 none)∧RRat hh (.agg #[a3,s3,b3,t3]) c∧hh.ext.get h3.n=some (.cells [a,s,b,t] 0 none)∧RRat hh (.agg #[a,s,b,t]) (qsum ((qprods l c lag).take i)) ∧
    fget fr 0=some v∧fget fr 1=some (KN lag)∧fget fr 4=some (ptr (2*h.n) 0)∧fget fr 5=some (ptr (2*h1.n) 0)∧fget fr 6=some (ptr (2*h3.n) 0)∧fget fr 7=some (KN i)) (l.length - lag)
   ⟨0,a4,s4,b4,t4,by omega,E3.trans Ex3,by simp,by simp (disch:=first|omega|(simp only[new_n,put_n];omega)|(repeat first|rw[new_n]|rw[put_n])) only[get_new_old,get_put_old];exact kg3,by simp (disch:=first|omega|(simp only[new_n,put_n];omega)|(repeat first|rw[new_n]|rw[put_n])) only[get_new_old,get_put_old];exact gm3,pm3.keep Ex3.keep,by simp (disch:=first|omega|(simp only[new_n,put_n];omega)|(repeat first|rw[new_n]|rw[put_n])) only[get_put_same],p3.keep Ex3.keep,by simp,by simp,by simp,by simp,by simp,by simp⟩ ?_
  clear p1 p2 p3 kg3 gm3 pm3 Ex3 kg gm
  rintro m fr hh ⟨i,a,s,b,t,him,hE,hn,hg,hgm,hpm,hgs,hps,f0,f1,f4,f5,f6,f7⟩
  have hnn:=hE.n
  have eIL:(i:Int)+(lag:Int)=((i+lag:Nat):Int):=by omega
  simp -dsimp (disch:=omega) only[wpS,Nat.reduceEqDiff,f0,f1,f7,hs0.len sl111,eIL]
  refine bq_intro ?_ ?_<;>intro hcx<;>simp only[decide_eq_true_eq,decide_eq_false_iff_not] at hcx
  ·have hi:i<l.length - lag:=by omega
   obtain⟨x,hx⟩ : ∃q,l[i]?=some q:=⟨_,List.getElem?_eq_getElem (by omega)⟩
   obtain⟨z,hz⟩ : ∃q,l[i+lag]?=some q:=⟨_,List.getElem?_eq_getElem (by omega)⟩
   have qx:=hk x (List.mem_of_getElem? hx)
   have qz:=hk z (List.mem_of_getElem? hz)
   have hv':=hv.keep kept_q hE.keep
   obtain⟨cs1,hs1,_,_⟩:=id hv'
   obtain⟨xa,xs,xb,xu,hxl⟩:=hv'.ldAll kept_q hx (P:=Proofs.Tryz.prog) (t:=91) ag91 sz91
   obtain⟨za,zs,zb,zu,hzl⟩:=hv'.ldAll kept_q hz (P:=Proofs.Tryz.prog) (t:=91) ag91 sz91
   have X0:=Ext.refl hh
   obtain⟨_,_,L1⟩:=ql4 hgs
   obtain⟨_,_,L2⟩:=ql4 hgm
   simp -dsimp (disch:=omega) only[wpS,wpT]
   refine drawn [(0,[14,15,16]),(12,[6]),(13,[6])] (by kernel_rfl) (by kernel_rfl) rfl ?_
   simp -dsimp (disch:=omega) only[wpS,wpT,Nat.reduceEqDiff,Nat.reduceLeDiff,Nat.reduceAdd,ld91,f0,f5,f6,f7,row_of hgs,row_of hgm,tk4',hs1.idx es111 (show i<l.length by omega),(hxl hh (Keep.refl _)).1]
   refine call (qminus_ok (hxl hh (Keep.refl _)).2 hpm qx hc (by omega)) ?_
   rintro r1 h4 ⟨X4,q1⟩
   have m4:=X4.n
   simp -dsimp (disch:=omega) only[wpS,wpT,Nat.reduceEqDiff,Nat.reduceLeDiff,Nat.reduceAdd,ld91,f0,f1,f5,f7,eIL,row_of (X4.kept (by omega) hgm),tk4',hs1.idx es111 (show i+lag<l.length by omega),(hzl h4 X4.keep).1]
   refine call (qminus_ok (hzl h4 X4.keep).2 (hpm.keep X4.keep) qz hc (by omega)) ?_
   rintro r2 h5 ⟨X5',q2⟩
   have X5:=X4.trans X5'
   have m5:=X5.n
   simp -dsimp (disch:=omega) only[wpS,Nat.reduceEqDiff]
   refine call (qtimes_ok (q1.keep X5'.keep) q2 (qx.sub hc) (qz.sub hc) (by omega)) ?_
   rintro r3 h6 ⟨X6',q3⟩
   have X6:=X5.trans X6'
   have m6:=X6.n
   have e3:(x - c)*(z - c)=qpr l c lag i:=by rw[qpr,getD_of hx,getD_of hz]
   rw[e3] at q3
   simp -dsimp (disch:=omega) only[wpS,Nat.reduceEqDiff]
   have hib:i*(k+kc+1+(k+kc+1)+1)+(k+kc+1+(k+kc+1))+1<16000000:=by
    have:(i+1)*(k+kc+1+(k+kc+1)+1)≤l.length*(k+kc+1+(k+kc+1)+1):=Nat.mul_le_mul_right _ (by omega)
    rw[Nat.add_mul] at this;omega
   refine call (qplus_ok (hps.keep X6.keep) q3 (hQ i (by omega)) (qpr_bits hk hc (by omega)) hib) ?_
   rintro r7 h7 ⟨X7',q7⟩
   have X7:=X6.trans X7'
   have m7:=X7.n
   rw[show qsum ((qprods l c lag).take i)+qpr l c lag i=qsum ((qprods l c lag).take (i+1)) by rw[take_snoc (qprods_at hi),qsum_snoc]] at q7
   obtain⟨a7,s7,b7,t7,rfl,_,_,_,o1,_,o2,o3,o4⟩:=q7.parts
   have k7:=X7.kept hn hgs
   simp -dsimp (disch:=omega) only[wpS,wpT,Nat.reduceEqDiff,Nat.reduceLeDiff,Nat.reduceAdd,st91,f6,k7,o1,o2,o3,o4]
   refine⟨wpSteady_c2 (wpSteady_t2 (wpSteady_one rfl rfl rfl rfl (steady_ext (H0:=hh) (b:=2*h3.n) (o:=0) f6 (by omega) (by assumption) (by assumption) L1)) (wpSteady_t2 (wpSteady_one rfl rfl rfl rfl (steady_ext (H0:=hh) (b:=2*h3.n) (o:=0) f6 (by omega) (by assumption) (by assumption) L1)) (wpSteady_one rfl rfl rfl rfl (steady_ext (H0:=hh) (b:=2*h3.n) (o:=0) f6 (by omega) (by assumption) (by assumption) L1)))) (wpSteady_c2 (wpSteady_one rfl rfl rfl rfl (steady_load rfl (hzl h4 X4.keep).1 (hzl hh (Keep.refl _)).1)) (wpSteady_one rfl rfl rfl rfl (steady_ext (H0:=hh) (b:=2*h1.n) (o:=0) f5 (by omega) (by assumption) (by assumption) L2))),?_⟩
   simp -dsimp (disch:=omega) only[wpS,wpT,Nat.reduceEqDiff,Nat.reduceAdd,f7]
   refine⟨m - 1,by omega,i+1,a7,s7,b7,t7,by omega,(hE.trans X7).put (by omega) _,by simp only[put_n];omega,by simp (disch:=first|omega|(simp only[new_n,put_n];omega)|(repeat first|rw[new_n]|rw[put_n])) only[get_put_old];exact X7.kept (by omega) hg,by simp (disch:=first|omega|(simp only[new_n,put_n];omega)|(repeat first|rw[new_n]|rw[put_n])) only[get_put_old];exact X7.kept (by omega) hgm,(hpm.keep X7.keep).keep ((Keep.refl _).put k7 _),get_put_same _ _ rfl,q7.keep ((Keep.refl _).put k7 _),by simp[f0],by simp[f1],by simp[f4],by simp[f5],by simp[f6],by simp⟩
  ·have hil:i=l.length - lag:=by omega
   have et:(qprods l c lag).take i=qprods l c lag:=List.take_of_length_le (by rw[qprods_len];omega)
   rw[et] at hps
   simp -dsimp (disch:=omega) only[wpS,wpT]
   exact⟨a,s,b,t,hE,hn,hg,hgs,hps,by simp[f0],by simp[f4],by simp[f6]⟩
 rintro fr hh ⟨a,s,b,t,hE,hn,hg,hgs,hps,f0,f4,f6⟩
 have X0:=Ext.refl hh
 obtain⟨_,_,L1⟩:=ql4 hgs
 have hnn:=hE.n
 have hQl:=hQ (l.length - lag) (Nat.le_refl _)
 rw[show(qprods l c lag).take (l.length - lag)=qprods l c lag from List.take_of_length_le (by rw[qprods_len];omega)] at hQl
 have hb6:(l.length - lag)*(k+kc+1+(k+kc+1)+1)+17<16000000:=by
  have:(l.length - lag)*(k+kc+1+(k+kc+1)+1)≤l.length*(k+kc+1+(k+kc+1)+1):=Nat.mul_le_mul_right _ (by omega)
  omega
 rw[d_seq]
 refine drawn [(0,[4])] (by kernel_rfl) (by kernel_rfl) rfl ?_
 simp -dsimp (disch:=omega) only[wpS,wpT,Nat.reduceEqDiff,Nat.reduceLeDiff,Nat.reduceAdd,ld91,f0,f6,row_of hgs,tk4',hs0.len sl111]
 refine call (quick_ok 1 (l.length:Int) ⟨by omega,by omega⟩ ⟨by omega,by omega⟩ (by omega)) ?_
 rintro r4 h4 ⟨X4,p4⟩
 have m4:=X4.n
 rw[divInt_one] at p4
 simp -dsimp (disch:=omega) only[wpS,Nat.reduceEqDiff]
 have hB1:QB 17 (1 / (((l.length:Nat):Int):Rat)):=by
  have o1B:QB 0 ((1:Int):Rat):=QB.int (by decide)
  exact(o1B.div (qlen_bits hlen) (qlen_ne h0)).mono (by omega)
 refine call (qtimes_ok (hps.keep X4.keep) p4 hQl hB1 hb6) ?_
 rintro r5 h5 ⟨X5,p5⟩
 have m5:=X5.n
 have X45:=X4.trans X5
 rw[mul_inv_eq] at p5
 have p5':RRat h5 r5 (qauto l c lag):=p5
 obtain⟨a5,s5,b5,t5,rfl,_,_,_,o1,_,o2,o3,o4⟩:=p5.parts
 have kg5:=X45.kept (by omega) hg
 simp -dsimp (disch:=omega) only[wpS,wpT,Nat.reduceEqDiff,Nat.reduceLeDiff,Nat.reduceAdd,st91,f4,kg5,o1,o2,o3,o4]
 refine⟨wpSteady_one rfl rfl rfl rfl (steady_ext (H0:=hh) (b:=2*h3.n) (o:=0) f6 (by omega) (by assumption) (by assumption) L1),?_⟩
 simp -dsimp (disch:=omega) only[wpS,wpT,Nat.reduceEqDiff,Nat.reduceLeDiff,Nat.reduceAdd,ld91,f4,tk4']
 exact⟨(hE.trans X45).put (by omega) _,p5'.keep ((Keep.refl _).put kg5 _)⟩
end Go.Id

/-! Contracts: package diagnose: the variance within. -/
namespace Go.Id
open Go
set_option maxHeartbeats 2000000 in
theorem total2_ok {h:IH} {v F:Value} {ll:List (List (Nat×Nat))} (hv:ShLs h v ll) (f:List (Nat×Nat)→Rat) (k:Nat) (hF : ∀h1 w x,Ext h h1→ShSl h1 w x→x∈ll→WV Proofs.Tryz.prog F [w] h1 fun r h2=>Ext h1 h2∧PRat h2 r (f x)) (hk : ∀x∈ll,QB k (f x)) (hb:ll.length*(k+1)<16000000) :
  WV Proofs.Tryz.prog (.func (.func 108) #[] #[]) [v,F] h fun r h'=>Ext h h'∧PRat h' r (qsum (ll.map f)):=by
 obtain⟨_,_,hlen⟩:=hv.co
 have hlb:=hv.choose_spec.2.1
 have hQ : ∀i,i≤ll.length→QB (i*(k+1)) (qsum ((ll.take i).map f)):=by
  intro i hi
  have:=QB.qsum (k:=k) (l:=ll.map f) (by intro q hq;obtain⟨x,hx,rfl⟩:=List.mem_map.1 hq;exact hk x hx) i (by simpa using hi)
  rwa [←List.map_take] at this
 refine enter (nt:=22) (rs:=[.cell 4 83]) Proofs.Tryz.func108 rfl rfl rfl (by simp) ?_
 simp -dsimp (disch:=omega) only[wpS,Nat.reduceAdd,zc83]
 have E1:Ext h (h.new (.cells ZR 0 none)):=(Ext.refl h).new _
 have g1:(h.new (.cells ZR 0 none)).ext.get h.n=some (.cells ZR 0 none):=by simp (disch:=first|omega|(simp only[new_n,put_n];omega)|(repeat first|rw[new_n]|rw[put_n])) only[get_new_same]
 refine call (rfrom_ok 0 ⟨by omega,by omega⟩) ?_
 rintro z h1 ⟨X1,p1⟩
 have m1:=X1.n
 simp only[new_n] at m1
 obtain⟨a3,s3,b3,t3,rfl,_,_,d1,o1,d2,o2,o3,o4⟩:=p1.parts
 have kg:=X1.kept (by simp) g1
 simp -dsimp (disch:=omega) only[wpS,wpT,Nat.reduceEqDiff,Nat.reduceLeDiff,Nat.reduceAdd,zc83,st83,o1,o2,o3,o4,hlen]
 have Ex2:Ext h1 ((h1.new (.cells ZR 0 none)).put h1.n (.cells [a3,s3,b3,t3] 0 none)):=((Ext.refl h1).new _).put (Nat.le_refl _) _
 refine loop (fun m fr hh => ∃(i:Nat) (a s b t:Value),i+m=ll.length∧Ext h hh∧h1.n<hh.n∧hh.ext.get h.n=some (.cells ZR 0 none)∧hh.ext.get h1.n=some (.cells [a,s,b,t] 0 none)∧PRat hh (.agg #[a,s,b,t]) (qsum ((ll.take i).map f)) ∧
   fget fr 1=some F∧fget fr 4=some (ptr (2*h.n) 0)∧fget fr 5=some (ptr (2*h1.n) 0)∧fget fr 9=some v∧fget fr 10=some (KN ll.length)∧fget fr 11=some (KN i)) ll.length
  ⟨0,a3,s3,b3,t3,by omega,(E1.trans X1).trans Ex2,by simp,by simp (disch:=first|omega|(simp only[new_n,put_n];omega)|(repeat first|rw[new_n]|rw[put_n])) only[get_new_old,get_put_old];exact kg,by simp (disch:=first|omega|(simp only[new_n,put_n];omega)|(repeat first|rw[new_n]|rw[put_n])) only[get_put_same],p1.keep Ex2.keep,by simp,by simp,by simp,by simp,by simp,by simp⟩ ?_
 clear p1 kg Ex2
 rintro m fr hh ⟨i,a,s,b,t,him,hE,hn,hg,hg5,hp,f1,f4,f5,f9,f10,f11⟩
 simp -dsimp (disch:=omega) only[wpS,f10,f11]
 refine bq_intro ?_ ?_<;>intro hc<;>simp only[decide_eq_true_eq,decide_eq_false_iff_not] at hc
 ·have hi:i<ll.length:=by omega
  obtain⟨x,hx⟩ : ∃x,ll[i]?=some x:=⟨_,List.getElem?_eq_getElem hi⟩
  have hxm:=List.mem_of_getElem? hx
  obtain⟨w,l1,l2,l3⟩:=hv.at hE.keep hx
  simp -dsimp (disch:=omega) only[wpS,wpT,Nat.reduceEqDiff,f9,f11,l1,l3]
  have X0:=Ext.refl hh
  obtain⟨_,_,L1⟩:=pl4 hg5
  have hnn:=hE.n
  refine drawn [(0,[4])] (by kernel_rfl) (by kernel_rfl) rfl ?_
  simp -dsimp (disch:=omega) only[wpS,wpT,Nat.reduceEqDiff,Nat.reduceLeDiff,Nat.reduceAdd,ld83,f1,f5,row_of hg5,tk4']
  refine call (hF hh w x hE l2 hxm) ?_
  rintro r h2 ⟨X2,p2⟩
  have m2:=X2.n
  simp -dsimp (disch:=omega) only[wpS,Nat.reduceEqDiff]
  have hkb:i*(k+1)+k+1<16000000:=by
   have:(i+1)*(k+1)≤ll.length*(k+1):=Nat.mul_le_mul_right _ hi
   rw[Nat.add_mul] at this;omega
  refine call (rplus_ok (hp.keep X2.keep) p2 (hQ i (by omega)) (hk x hxm) hkb) ?_
  rintro r3 h3 ⟨hE3,p3⟩
  have m3:=hE3.n
  have X3:=X2.trans hE3
  have eT:qsum ((ll.take i).map f)+f x=qsum ((ll.take (i+1)).map f):=by rw[take_snoc hx,List.map_append,List.map_cons,List.map_nil,qsum_snoc]
  rw[eT] at p3
  obtain⟨a4,s4,b4,t4,rfl,_,_,_,o1,_,o2,o3,o4⟩:=p3.parts
  have k5:=X3.kept (by omega) hg5
  have kz:=X3.kept (by omega) hg
  simp -dsimp (disch:=omega) only[wpS,wpT,Nat.reduceEqDiff,Nat.reduceLeDiff,Nat.reduceAdd,st83,f5,k5,o1,o2,o3,o4]
  refine⟨wpSteady_one rfl rfl rfl rfl (steady_ext (H0:=hh) (b:=2*h1.n) (o:=0) f5 (by omega) (by assumption) (by assumption) L1),?_⟩
  simp -dsimp (disch:=omega) only[wpS,wpT,Nat.reduceEqDiff,Nat.reduceAdd,f11]
  refine⟨m - 1,by omega,i+1,a4,s4,b4,t4,by omega,(hE.trans X3).put (by omega) _,by simp only[put_n];omega,by simp (disch:=first|omega|(simp only[new_n,put_n];omega)|(repeat first|rw[new_n]|rw[put_n])) only[get_put_old];exact kz,get_put_same _ _ rfl,p3.keep ((Keep.refl _).put k5 _),by simp[f1],by simp[f4],by simp[f5],by simp[f9],by simp[f10],by simp⟩
 ·obtain rfl:i=ll.length:=by omega
  rw[List.take_length] at hp
  obtain⟨_,_,_,_,hhe,_,_,_,o1,_,o2,o3,o4⟩:=hp.parts
  cases hhe
  simp -dsimp (disch:=omega) only[wpS,wpT,Nat.reduceEqDiff,Nat.reduceLeDiff,Nat.reduceAdd,st83,ld83,f4,f5,row_of hg5,hg,tk4',o1,o2,o3,o4]
  exact⟨hE.put (Nat.le_refl _) _,hp.keep ((Keep.refl _).put hg _)⟩
def qsqm (l:List Rat):Rat:=qsq l (qmean l)
abbrev sBits (n k:Nat):Nat:=n*(k+(n*(k+1)+17)+1+(k+(n*(k+1)+17)+1)+1)
theorem qsqm_bits {l:List Rat} {k:Nat} (h0:l ≠ []) (hl:l.length≤100000) (hk : ∀q∈l,QB k q):QB (sBits l.length k) (qsqm l):=by
 have:=QB.qsumAll (l:=l.map fun x=>(x - qmean l)*(x - qmean l)) (k:=k+(l.length*(k+1)+17)+1+(k+(l.length*(k+1)+17)+1)) (by
  intro q hq
  obtain⟨x,hx,rfl⟩:=List.mem_map.1 hq
  exact qsq_bits hk (qmean_bits h0 hl hk) x hx)
 rw[List.length_map] at this
 exact this
set_option maxHeartbeats 1000000 in
theorem within1_ok {h:IH} {v:Value} {l:List (Nat×Nat)} (hv:ShSl h v l) (hok:allOk l) (hl:l.length≤1000) (h0:l ≠ []) {k:Nat} (hk : ∀q∈l.map rOf,QB k q) (hb:sBits l.length k<16000000) :
  WV Proofs.Tryz.prog (.func (.func 109) #[] #[]) [v] h fun r h'=>Ext h h'∧PRat h' r (qsqm (l.map rOf)):=by
 have hl0:0<l.length:=List.length_pos_iff.2 h0
 have hone:1*(k+(l.length*(k+1)+17)+1+(k+(l.length*(k+1)+17)+1)+1)≤sBits l.length k:=Nat.mul_le_mul_right _ hl0
 have hmb:QB (l.length*(k+1)+17) (qmean (l.map rOf)):=by
  have:=qmean_bits (l:=l.map rOf) (by simpa using h0) (by simp;omega) hk
  rwa [List.length_map] at this
 refine enter (nt:=11) (rs:=[.cell 2 83]) Proofs.Tryz.func109 rfl rfl rfl (by simp) ?_
 simp -dsimp (disch:=omega) only[wpS,Nat.reduceEqDiff,zc83]
 have E1:Ext h (h.new (.cells ZR 0 none)):=(Ext.refl h).new _
 have g1:(h.new (.cells ZR 0 none)).ext.get h.n=some (.cells ZR 0 none):=by simp (disch:=first|omega|(simp only[new_n,put_n];omega)|(repeat first|rw[new_n]|rw[put_n])) only[get_new_same]
 refine call (chain_ok (hv.keep E1.keep) hok hl h0 hk (by omega)) ?_
 rintro _ h1 ⟨X1,s,a1,s1,b1,t1,rfl,hs,hc⟩
 have m1:=X1.n
 simp only[new_n] at m1
 obtain⟨sc,so⟩:=hs.co
 obtain⟨_,_,_,_,hhe,_,_,_,o1,_,o2,o3,o4⟩:=hc.parts
 cases hhe
 simp -dsimp (disch:=omega) only[wpS,wpT,Nat.reduceEqDiff,Nat.reduceLeDiff,Nat.reduceAdd,zc107,st107,fa107_0,ld103,fa107_1,ld83,so,o1,o2,o3,o4]
 have E2:Ext h1 ((h1.new (.cells [.slice none 0 0,.bool false,.slice none 0 0,.bool false,.slice none 0 0] 0 none)).put h1.n (.cells [s,a1,s1,b1,t1] 0 none)):=((Ext.refl h1).new _).put (Nat.le_refl _) _
 refine call (squares_ok (hs.keep kept_p E2.keep) (hc.keep E2.keep) hk hmb (by rw[List.length_map];exact hb) (by omega)) ?_
 rintro r3 h3 ⟨X3,p3⟩
 have m3:=X3.n
 simp only[put_n,new_n] at m3
 obtain⟨a3,s3,b3,t3,rfl,_,_,d1,o5,d2,o6,o7,o8⟩:=p3.parts
 have kg:=X3.kept (by simp;omega) (E2.kept (by omega) (X1.kept (by simp) g1))
 simp -dsimp (disch:=omega) only[wpS,wpT,Nat.reduceEqDiff,Nat.reduceLeDiff,Nat.reduceAdd,ld83,st83,kg,o5,o6,o7,o8,tk4']
 exact⟨(((E1.trans X1).trans E2).trans X3).put (by omega) _,p3.keep ((Keep.refl _).put kg _)⟩
end Go.Id

/-! Contracts: package diagnose: the variance within, and that of the means. -/
namespace Go.Id
open Go
theorem sv_zero {ll:List (List (Nat×Nat))} (h:svErr ll=0):2≤ll.length∧ll.length≤8 ∧ ∀x∈ll,x.length≤200∧allOk x∧2≤x.length∧x.length=len0 ll:=by
 unfold svErr at h
 split at h
 ·omega
 ·rename_i h1
  split at h
  ·omega
  ·rename_i h2
   split at h
   ·omega
   ·rename_i h3
    have a1 : ¬8<ll.length:=fun hh=>h1 (.inl hh)
    have a3 : ¬ll.length<2:=fun hh=>h3 (.inl hh)
    refine⟨by omega,by omega,fun x hx=>?_⟩
    have b1 : ¬200<x.length:=fun hh=>h1 (.inr (List.any_eq_true.2 ⟨x,hx,decide_eq_true hh⟩))
    have b2:allOk x:=Classical.byContradiction fun hh=>h2 (List.any_eq_true.2 ⟨x,hx,decide_eq_true hh⟩)
    have b3 : ¬(x.length<2∨x.length≠len0 ll):=fun hh=>h3 (.inr (List.any_eq_true.2 ⟨x,hx,decide_eq_true hh⟩))
    exact⟨by omega,b2,by omega,by omega⟩
theorem len0_at {ll:List (List (Nat×Nat))} (h:2≤ll.length) : ∃x,ll[0]?=some x∧x∈ll∧len0 ll=x.length:=by
 obtain⟨x,hx⟩ : ∃x,ll[0]?=some x:=⟨_,List.getElem?_eq_getElem (by omega)⟩
 exact⟨x,hx,List.mem_of_getElem? hx,by rw[len0,List.getD_eq_getElem?_getD,hx];rfl⟩
def qwithin (ll:List (List (Nat×Nat))):Rat:=qsum (ll.map fun x=>qsqm (x.map rOf)) / (((ll.length*(len0 ll - 1):Nat):Int):Rat)
def qcentres (ll:List (List (Nat×Nat))):List Rat:=ll.map fun x=>qmean (x.map rOf)
def qmeansV (ll:List (List (Nat×Nat))):Rat:=qsqm (qcentres ll) / (((ll.length - 1:Nat):Int):Rat)
abbrev wBits (m n k:Nat):Nat:=m*(sBits n k+1)+17
abbrev vBits (m n k:Nat):Nat:=sBits m (mBits n k)+17
theorem small_rat {n:Nat} (h:n≤100000):QB 17 (((n:Nat):Int):Rat):=by
 refine QB.int ?_
 have e:2 ^ 17=131072:=by decide
 rw[Int.natAbs_natCast,e];omega
theorem nat_rat_ne {n:Nat} (h:0<n):(((n:Nat):Int):Rat)≠0:=by
 intro h0
 have:=Rat.intCast_eq_zero_iff.1 h0
 omega
structure SvOk (ll:List (List (Nat×Nat))) (k:Nat):Prop where
 e:svErr ll=0
 b : ∀x∈ll,∀q∈x.map rOf,QB k q
theorem SvOk.sq {ll:List (List (Nat×Nat))} {k:Nat} (s:SvOk ll k) : ∀x∈ll,QB (sBits (len0 ll) k) (qsqm (x.map rOf)):=fun x hx=>by
 obtain⟨_,_,h⟩:=sv_zero s.e
 obtain⟨h1,h2,h3,h4⟩:=h x hx
 have:=qsqm_bits (l:=x.map rOf) (k:=k) (by intro h0;simp at h0;rw[h0] at h3;simp at h3) (by simp;omega) (s.b x hx)
 rw[List.length_map,h4] at this
 exact this
theorem SvOk.within {ll:List (List (Nat×Nat))} {k:Nat} (s:SvOk ll k):QB (wBits ll.length (len0 ll) k) (qwithin ll):=by
 obtain⟨h1,h2,h⟩:=sv_zero s.e
 obtain⟨x,hx,hxm,hx0⟩:=len0_at h1
 obtain⟨a1,a2,a3,a4⟩:=h x hxm
 have h5:=QB.qsumAll (l:=ll.map fun x=>qsqm (x.map rOf)) (k:=sBits (len0 ll) k) (by intro q hq;obtain⟨x,hx,rfl⟩:=List.mem_map.1 hq;exact s.sq x hx)
 rw[List.length_map] at h5
 have hm:ll.length*(len0 ll - 1)≤8*200:=Nat.mul_le_mul h2 (by omega)
 exact h5.div (small_rat (by omega)) (nat_rat_ne (Nat.mul_pos (by omega) (by omega)))
theorem SvOk.centres {ll:List (List (Nat×Nat))} {k:Nat} (s:SvOk ll k) : ∀q∈qcentres ll,QB (mBits (len0 ll) k) q:=fun q hq=>by
 obtain⟨x,hx,rfl⟩:=List.mem_map.1 hq
 obtain⟨_,_,h⟩:=sv_zero s.e
 obtain⟨h1,h2,h3,h4⟩:=h x hx
 have:=qmean_bits (l:=x.map rOf) (k:=k) (by intro h0;simp at h0;rw[h0] at h3;simp at h3) (by simp;omega) (s.b x hx)
 rw[List.length_map,h4] at this
 exact this
theorem SvOk.means {ll:List (List (Nat×Nat))} {k:Nat} (s:SvOk ll k):QB (vBits ll.length (len0 ll) k) (qmeansV ll):=by
 obtain⟨h1,h2,h⟩:=sv_zero s.e
 have h5:=qsqm_bits (l:=qcentres ll) (k:=mBits (len0 ll) k) (by intro h0;simp[qcentres] at h0;rw[h0] at h1;simp at h1) (by simp[qcentres];omega) s.centres
 rw[qcentres,List.length_map] at h5
 exact h5.div (small_rat (by omega)) (nat_rat_ne (by omega))
set_option maxHeartbeats 2000000 in
theorem dgwithin_ok {h:IH} {v:Value} {ll:List (List (Nat×Nat))} {k:Nat} (hv:ShLs h v ll) (s:SvOk ll k) (hb:wBits ll.length (len0 ll) k<16000000) :
  WV Proofs.Tryz.prog (.func (.func 52) #[] #[]) [v] h fun r h'=>Ext h h'∧PRat h' r (qwithin ll):=by
 obtain⟨h1,h2,hx⟩:=sv_zero s.e
 obtain⟨x0,hx0,hxm0,hl0⟩:=len0_at h1
 obtain⟨y1,y2,y3,y4⟩:=hx x0 hxm0
 obtain⟨_,_,hlen⟩:=hv.co
 have hb':ll.length*(sBits (len0 ll) k+1)+17<16000000:=hb
 have hs1:1*(sBits (len0 ll) k+1)≤ll.length*(sBits (len0 ll) k+1):=Nat.mul_le_mul_right _ (by omega)
 refine enter (nt:=17) (rs:=[.cell 2 83]) Proofs.Tryz.func52 rfl rfl rfl (by simp) ?_
 simp -dsimp (disch:=omega) only[wpS,Nat.reduceEqDiff,zc83]
 have E1:Ext h (h.new (.cells ZR 0 none)):=(Ext.refl h).new _
 have g1:(h.new (.cells ZR 0 none)).ext.get h.n=some (.cells ZR 0 none):=by simp (disch:=first|omega|(simp only[new_n,put_n];omega)|(repeat first|rw[new_n]|rw[put_n])) only[get_new_same]
 refine call (total2_ok (hv.keep E1.keep) (fun x=>qsqm (x.map rOf)) (sBits (len0 ll) k) (fun hh w x e hw hxm=>?_) s.sq (by omega)) ?_
 ·obtain⟨z1,z2,z3,z4⟩:=hx x hxm
  exact within1_ok hw z2 (by omega) (by intro h0;rw[h0] at z3;simp at z3) (s.b x hxm) (by rw[z4];omega)
 rintro _ h3 ⟨X1,p1⟩
 have m1:=X1.n
 simp only[new_n] at m1
 obtain⟨a3,s3,b3,t3,rfl,_,_,_,o1,_,o2,o3,o4⟩:=p1.parts
 simp -dsimp (disch:=omega) only[wpS,wpT,Nat.reduceEqDiff,Nat.reduceLeDiff,Nat.reduceAdd,zc83,st83,o1,o2,o3,o4]
 obtain⟨H0,hH0⟩ : ∃H0,H0=(h3.new (.cells ZR 0 none)).put h3.n (.cells [a3,s3,b3,t3] 0 none):=⟨_,rfl⟩
 have e0:Ext h3 H0:=by rw[hH0];exact((Ext.refl _).new _).put (Nat.le_refl _) _
 have n0:H0.n=h3.n+1:=by rw[hH0];rfl
 have gx:H0.ext.get h3.n=some (.cells [a3,s3,b3,t3] 0 none):=by rw[hH0];simp (disch:=first|omega|(simp only[new_n,put_n];omega)|(repeat first|rw[new_n]|rw[put_n])) only[get_put_same]
 have p1':=p1.keep e0.keep
 rw[←hH0]
 clear hH0
 have X0:=Ext.refl H0
 obtain⟨_,_,L1⟩:=pl4 gx
 obtain⟨w,l1,l2,l3⟩:=hv.at ((E1.trans X1).trans e0).keep hx0
 have l3':indexAddr Proofs.Tryz.prog 22 v (.int .i64 0)=some (elemAddr v 0):=l3 .i64
 have eN:(x0.length:Int) - 1=((len0 ll - 1:Nat):Int):=by omega
 have eM:(ll.length:Int)*((len0 ll - 1:Nat):Int)=((ll.length*(len0 ll - 1):Nat):Int):=by simp
 have hm:ll.length*(len0 ll - 1)≤8*200:=Nat.mul_le_mul h2 (by omega)
 have hmp:0<ll.length*(len0 ll - 1):=Nat.mul_pos (by omega) (by omega)
 refine drawn [(0,[10])] (by kernel_rfl) (by kernel_rfl) rfl ?_
 simp -dsimp (disch:=omega) only[wpS,wpT,Nat.reduceEqDiff,Nat.reduceLeDiff,Nat.reduceAdd,ld83,row_of gx,tk4',hlen,l3',l1,l2.1.len sl25,eN,eM]
 refine call (rfrom_ok ((ll.length*(len0 ll - 1):Nat):Int) ⟨by omega,by omega⟩) ?_
 rintro r4 h4 ⟨X4,p4⟩
 have m4:=X4.n
 simp -dsimp (disch:=omega) only[wpS,Nat.reduceEqDiff]
 have hS:=QB.qsumAll (l:=ll.map fun x=>qsqm (x.map rOf)) (k:=sBits (len0 ll) k) (by intro q hq;obtain⟨x,hx,rfl⟩:=List.mem_map.1 hq;exact s.sq x hx)
 rw[List.length_map] at hS
 refine call (rover_ok (p1'.keep X4.keep) p4 hS (small_rat (by omega)) hb (nat_rat_ne hmp)) ?_
 rintro _ h5 ⟨X5,p5⟩
 have m5:=X5.n
 have X45:=X4.trans X5
 obtain⟨a5,s5,b5,t5,rfl,_,_,_,u1,_,u2,u3,u4⟩:=p5.parts
 have kg:=X45.kept (by omega) (e0.kept (by omega) (X1.kept (by simp) g1))
 simp -dsimp (disch:=omega) only[wpS,wpT,Nat.reduceEqDiff,Nat.reduceLeDiff,Nat.reduceAdd,st83,kg,u1,u2,u3,u4]
 refine⟨by repeat' first|refine wpSteady_c2 ?_ ?_|refine wpSteady_t2 ?_ ?_|exact wpSteady_one rfl rfl rfl rfl (steady_ext (H0:=H0) rfl (by omega) (by assumption) (by assumption) (by with_reducible assumption)),?_⟩
 simp -dsimp (disch:=omega) only[wpS,wpT,Nat.reduceEqDiff,Nat.reduceLeDiff,Nat.reduceAdd,ld83,tk4']
 exact⟨(((E1.trans X1).trans e0).trans X45).put (by omega) _,p5.keep ((Keep.refl _).put kg _)⟩
set_option maxHeartbeats 4000000 in
theorem dgmeans_ok {h:IH} {v:Value} {ll:List (List (Nat×Nat))} {k:Nat} (hv:ShLs h v ll) (s:SvOk ll k) (hb:vBits ll.length (len0 ll) k<16000000) :
  WV Proofs.Tryz.prog (.func (.func 57) #[] #[]) [v] h fun r h'=>Ext h h'∧PRat h' r (qmeansV ll):=by
 obtain⟨h1,h2,hx⟩:=sv_zero s.e
 obtain⟨x0,hx0,hxm0,hl0⟩:=len0_at h1
 obtain⟨y1,y2,y3,y4⟩:=hx x0 hxm0
 obtain⟨_,_,hlen⟩:=hv.co
 have hcl:(qcentres ll).length=ll.length:=by simp[qcentres]
 have hcn:qcentres ll ≠ []:=by intro h0;rw[h0] at hcl;simp at hcl;omega
 have hb':sBits ll.length (mBits (len0 ll) k)+17<16000000:=hb
 have hb2:ll.length*(mBits (len0 ll) k+(ll.length*(mBits (len0 ll) k+1)+17)+1+(mBits (len0 ll) k+(ll.length*(mBits (len0 ll) k+1)+17)+1)+1)<16000000:=Nat.lt_of_le_of_lt (Nat.le_add_right _ 17) hb'
 have hs0:1*(mBits (len0 ll) k+(ll.length*(mBits (len0 ll) k+1)+17)+1+(mBits (len0 ll) k+(ll.length*(mBits (len0 ll) k+1)+17)+1)+1)≤sBits ll.length (mBits (len0 ll) k):=Nat.mul_le_mul_right _ (by omega)
 refine enter (nt:=28) (rs:=[.cell 2 83]) Proofs.Tryz.func57 rfl rfl rfl (by simp) ?_
 simp -dsimp (disch:=omega) only[wpS,Nat.reduceEqDiff,zc83,hlen]
 have E1:Ext h (h.new (.cells ZR 0 none)):=(Ext.refl h).new _
 have g1:(h.new (.cells ZR 0 none)).ext.get h.n=some (.cells ZR 0 none):=by simp (disch:=first|omega|(simp only[new_n,put_n];omega)|(repeat first|rw[new_n]|rw[put_n])) only[get_new_same]
 refine loop_cut (fun fr hh => ∃out cs,Ext h hh∧h.n<hh.n∧hh.ext.get h.n=some (.cells ZR 0 none)∧Acc hh (h.n+1) 4 out (qcentres ll).length cs∧ElCs PRat hh (qcentres ll) cs∧fget fr 0=some v∧fget fr 2=some (ptr (2*h.n) 0)∧fget fr 3=some out) ?_ ?_
 ·refine loop (fun m fr hh => ∃(i:Nat) (out:Value) (cs:List Value),i+m=ll.length∧Ext (h.new (.cells ZR 0 none)) hh∧Acc hh (h.n+1) 4 out ((qcentres ll).take i).length cs∧ElCs PRat hh ((qcentres ll).take i) cs∧fget fr 0=some v∧fget fr 2=some (ptr (2*h.n) 0)∧fget fr 3=some out∧fget fr 6=some v∧fget fr 7=some (KN ll.length)∧fget fr 8=some (KN i)) ll.length
   ⟨0,.slice none 0 0,[],by omega,Ext.refl _,Acc.nil _ _ (by omega),by simp[ElCs],by simp,by simp,by simp,by simp,by simp,by simp⟩ ?_
  rintro m fr hh ⟨i,out,cs,him,hE,hA,hC,f0,f2,f3,f6,f7,f8⟩
  have mE:=hE.n
  simp only[new_n] at mE
  simp -dsimp (disch:=omega) only[wpS,f7,f8]
  refine bq_intro ?_ ?_<;>intro hc<;>simp only[decide_eq_true_eq,decide_eq_false_iff_not] at hc
  ·have hi:i<ll.length:=by omega
   obtain⟨x,hxx⟩ : ∃x,ll[i]?=some x:=⟨_,List.getElem?_eq_getElem hi⟩
   have hxm:=List.mem_of_getElem? hxx
   obtain⟨z1,z2,z3,z4⟩:=hx x hxm
   obtain⟨w,l1,l2,l3⟩:=hv.at (E1.trans hE).keep hxx
   have hqx:(qcentres ll)[i]?=some (qmean (x.map rOf)):=by simp[qcentres,hxx]
   have hmb:mBits x.length k<16000000:=by rw[z4];omega
   simp -dsimp (disch:=omega) only[wpS,wpT,Nat.reduceEqDiff,f3,f6,f8,l1,l3]
   refine call (chain_ok l2 z2 (by omega) (by intro h0;rw[h0] at z3;simp at z3) (s.b x hxm) hmb) ?_
   rintro _ h4 ⟨X4,s4,a4,s5,b4,t4,rfl,hs4,hc4⟩
   have m4:=X4.n
   obtain⟨_,_,_,_,hhe,_,_,_,u1,_,u2,u3,u4⟩:=hc4.parts
   cases hhe
   obtain⟨out',h5,hap,hA5,hC5,hG5,hE5⟩:=read4 ap103 (by omega) kept_p (hA.ext X4) (hC.keep kept_p X4.keep) hc4 (by simp[u1,u2,u3,u4]) (by simp[qcentres];omega) (by omega) (hE.trans X4) (by simp)
   have eT:(qcentres ll).take i ++ [qmean (x.map rOf)]=(qcentres ll).take (i+1):=(take_snoc hqx).symm
   rw[eT] at hA5 hC5
   have ex5:(#[s4,a4,s5,b4,t4]:Array Value).extract 1 5 = #[a4,s5,b4,t4]:=rfl
   simp -dsimp (disch:=omega) only[wpS,wpT,Nat.reduceEqDiff,Nat.reduceLeDiff,Nat.reduceAdd,fp107_1,bs103,ba103_103,f8,ex5,hap]
   exact⟨m - 1,by omega,i+1,out',_,by omega,hE5,hA5,hC5,by simp[f0],by simp[f2],by simp,by simp[f6],by simp[f7],by simp⟩
  ·obtain rfl:i=ll.length:=by omega
   rw[←hcl,List.take_length] at hA hC
   simp -dsimp (disch:=omega) only[wpS,wpT]
   exact⟨out,cs,E1.trans hE,by omega,hE.kept (by simp) g1,hA,hC,by simp[f0],by simp[f2],by simp[f3]⟩
 rintro fr hh ⟨out,cs,hE,hn,hg,hA,hC,f0,f2,f3⟩
 have hS:ElSl PRat hh out (qcentres ll):=⟨cs,hA.sl,hC,by rw[hcl];omega⟩
 have hcB:=s.centres
 have hmm:=qmean_bits hcn (by rw[hcl];omega) hcB
 rw[hcl] at hmm
 simp -dsimp (disch:=omega) only[wpS,Nat.reduceEqDiff,f3]
 refine call (mean_ok hS hcn hcB (by rw[hcl];omega)) ?_
 rintro rm h4 ⟨X4,p4⟩
 have m4:=X4.n
 simp -dsimp (disch:=omega) only[wpS,Nat.reduceEqDiff]
 refine call (squares_ok (hS.keep kept_p X4.keep) p4 hcB hmm (by rw[hcl];exact hb2) (by omega)) ?_
 rintro rq h5 ⟨X5,p5⟩
 have m5:=X5.n
 have eN:(ll.length:Int) - 1=((ll.length - 1:Nat):Int):=by omega
 simp -dsimp (disch:=omega) only[wpS,Nat.reduceEqDiff,f0,hlen,eN]
 refine call (rfrom_ok ((ll.length - 1:Nat):Int) ⟨by omega,by omega⟩) ?_
 rintro rf h6 ⟨X6,p6⟩
 have m6:=X6.n
 simp -dsimp (disch:=omega) only[wpS,Nat.reduceEqDiff]
 have hQ:QB (sBits ll.length (mBits (len0 ll) k)) (qsqm (qcentres ll)):=by
  have:=qsqm_bits hcn (by rw[hcl];omega) hcB
  rw[hcl] at this
  exact this
 have p5':PRat h5 rq (qsqm (qcentres ll)):=p5
 refine call (rover_ok (p5'.keep X6.keep) p6 hQ (small_rat (by omega)) hb (nat_rat_ne (by omega))) ?_
 rintro _ h7 ⟨X7,p7⟩
 have m7:=X7.n
 obtain⟨a5,s5,b5,t5,rfl,_,_,_,u1,_,u2,u3,u4⟩:=p7.parts
 have kg:=X7.kept (by omega) (X6.kept (by omega) (X5.kept (by omega) (X4.kept hn hg)))
 simp -dsimp (disch:=omega) only[wpS,wpT,Nat.reduceEqDiff,Nat.reduceLeDiff,Nat.reduceAdd,st83,ld83,f2,kg,u1,u2,u3,u4,tk4']
 exact⟨((((hE.trans X4).trans X5).trans X6).trans X7).put (by omega) _,p7.keep ((Keep.refl _).put kg _)⟩
end Go.Id

/-! Contracts: package diagnose: Effective. -/
namespace Go.Id
open Go
def effS (a:Nat→Rat) (w:Rat) (n:Nat):Nat→Nat→Rat→Rat
 | 0,_,s=>s
 | f+1,k,s=>if 2*k<n then (if a (2*k)+a (2*k+1)≤0 then s else effS a w n f (k+1) (s+(a (2*k)+a (2*k+1)) / w)) else s
def effT (s:Rat) (n:Rat):Rat:=if s+s - 1<1 / n then 1 / n else s+s - 1
def qeff (l:List Rat):Rat:=qlen l / effT (effS (qauto l (qmean l)) (qauto l (qmean l) 0) l.length (l.length+1) 0 0) (qlen l)
noncomputable def effRes (l:List (Nat×Nat)):Value:=if chErr l=0 then (if qauto (l.map rOf) (qmean (l.map rOf)) 0=0 then errV 7 else toldV (qeff (l.map rOf))) else errV (chErr l)
theorem qauto_far {l:List Rat} {c:Rat} {k:Nat} (h:l.length≤k):qauto l c k=0:=by
 have:l.length - k=0:=by omega
 simp[qauto,qprods,this,qsum,Rat.div_def]
theorem qauto_bits {l:List Rat} {c:Rat} {kb kc k:Nat} (hk : ∀q∈l,QB kb q) (hc:QB kc c) (hl:l.length≤100000) (h0:l ≠ []):QB (l.length*(kb+kc+1+(kb+kc+1)+1)+17) (qauto l c k):=by
 have h1:QB ((qprods l c k).length*(kb+kc+1+(kb+kc+1)+1)) (qsum (qprods l c k)):=QB.qsumAll fun q hq=>by
  obtain⟨t,ht,rfl⟩:=List.mem_map.1 hq
  exact qpr_bits hk hc (by simp at ht;omega)
 refine((h1.mono ?_).div (qlen_bits hl) (qlen_ne h0))
 rw[qprods_len]
 exact Nat.mul_le_mul_right _ (by omega)
theorem auto_far_ok {h:IH} {v:Value} {l:List Rat} {c:Rat} {lag:Nat} (hv:RunIs h v l c) (hlag:l.length≤lag) (hb:lag<1000000) :
  WV Proofs.Tryz.prog (.func (.func 74) #[] #[]) [v,KN lag] h fun r h'=>Ext h h'∧PRat h' r (qauto l c lag):=by
 obtain⟨s,a1,s1,b1,t1,rfl,hs,hcc⟩:=hv
 obtain⟨cs0,hs0,_,hlen⟩:=id hs
 rw[qauto_far hlag]
 refine enter (nt:=27) (rs:=[.cell 4 83]) Proofs.Tryz.func74 rfl rfl rfl (by simp) ?_
 simp -dsimp (disch:=omega) only[wpS,Nat.reduceEqDiff,Nat.reduceAdd,zc83]
 have E1:Ext h ((h.new (.cells [s,a1,s1,b1,t1] 0 none)).new (.cells ZR 0 none)):=((Ext.refl h).new _).new _
 have g0:((h.new (.cells [s,a1,s1,b1,t1] 0 none)).new (.cells ZR 0 none)).ext.get h.n=some (.cells [s,a1,s1,b1,t1] 0 none):=by simp (disch:=first|omega|(simp only[new_n,put_n];omega)|(repeat first|rw[new_n]|rw[put_n])) only[get_new_same,get_new_old]
 have g1:((h.new (.cells [s,a1,s1,b1,t1] 0 none)).new (.cells ZR 0 none)).ext.get (h.n+1)=some (.cells ZR 0 none):=by simp (disch:=first|omega|(simp only[new_n,put_n];omega)|(repeat first|rw[new_n]|rw[put_n])) only[get_new_same]
 refine call (rfrom_ok 0 ⟨by omega,by omega⟩) ?_
 rintro z h1 ⟨X1,p1⟩
 have m1:=X1.n
 simp only[new_n] at m1
 obtain⟨a3,s3,b3,t3,rfl,_,_,d1,q1,d2,q2,q3,q4⟩:=p1.parts
 have k0:=X1.kept (by simp<;>omega) g0
 have k1:=X1.kept (by simp) g1
 have c1:decide ((l.length:Int)≤(lag:Int))=true:=decide_eq_true (by omega)
 simp -dsimp (disch:=omega) only[wpS,wpT,Nat.reduceEqDiff,Nat.reduceLeDiff,Nat.reduceAdd,zc83,st83,fa107_0,ld103,ld83,q1,q2,q3,q4,row_of k0,hs0.len sl103,c1,tk4',k1]
 have kp:Keep h1 (((h1.new (.cells ZR 0 none)).put h1.n (.cells [a3,s3,b3,t3] 0 none)).put (h.n+1) (.cells [a3,s3,b3,t3] 0 none)):=((((Ext.refl h1).new _).put (Nat.le_refl _) _).keep).put (cs:=ZR) (f:=none) (by simp (disch:=first|omega|(simp only[new_n,put_n];omega)|(repeat first|rw[new_n]|rw[put_n])) only[get_new_old,get_put_old];exact k1) _
 exact⟨((((E1.trans X1).new _).put (by omega) _).put (by omega) _),p1.keep kp⟩
theorem auto_any_ok {h:IH} {v:Value} {l:List Rat} {c:Rat} {lag:Nat} (hv:RunIs h v l c) (hlag:lag<1000000) {kb kc:Nat} (hk : ∀q∈l,QB kb q) (hc:QB kc c) (hb:l.length*(kb+kc+1+(kb+kc+1)+1)+17<16000000) :
  WV Proofs.Tryz.prog (.func (.func 74) #[] #[]) [v,KN lag] h fun r h'=>Ext h h'∧PRat h' r (qauto l c lag):=by
 by_cases hl:lag<l.length
 ·exact auto_ok hv hl hk hc hb
 ·exact auto_far_ok hv (by omega) hlag
theorem wv_bound {P:Program} {f:FuncId} {a v:Value} {h:IH} {K:Value→IH→Prop} (w:WV P (.func (.func f) #[] #[]) [a,v] h K):WV P (.func (.func f) #[a] #[]) [v] h K:=by
 obtain⟨p,⟨N,hN⟩,hk⟩:=w
 refine⟨p,⟨N,fun n hn=>?_⟩,hk⟩
 have:=hN n hn
 cases n with
 | zero=>exact this
 | succ n=>exact this
theorem rside_rat {h:IH} {a s b t:Value} {q:Rat} (hv:PRat h (.agg #[a,s,b,t]) q):PLong h (.agg #[a,s]) q.num:=by
 obtain⟨_,_,_,_,he,h1,_⟩:=hv
 cases he
 exact h1
theorem side_sign (q:Rat):(if q.num<0 then (-1:Int) else if q.num=0 then 0 else 1)=if q<0 then -1 else if q=0 then 0 else 1:=by
 have e1:q.num<0↔q<0:=by
  have:=Rat.num_nonneg (q:=q)
  constructor
  ·intro h
   apply Classical.byContradiction;intro hn
   have:=this.2 (Rat.not_lt.1 hn)
   omega
  ·intro h
   apply Classical.byContradiction;intro hn
   have:=this.1 (by omega)
   exact absurd h (Rat.not_lt.2 this)
 have e2:q.num=0↔q=0:=Rat.num_eq_zero
 simp only[e1,e2]
abbrev eBits (n k:Nat):Nat:=(n+1)*(aBits n k+aBits n k+1+aBits n k+1)
theorem rat_pos_inv {n:Rat} (h:0<n):0<1 / n:=by
 rw[Rat.div_def,Rat.one_mul];exact Rat.inv_pos.2 h
theorem qlen_pos {l:List Rat} (h:l ≠ []):0<qlen l:=by
 have:0<l.length:=List.length_pos_iff.2 h
 exact Rat.intCast_pos.2 (by omega)
theorem effT_pos {s n:Rat} (h:0<n):0<effT s n:=by
 have h1:=rat_pos_inv h
 unfold effT
 split
 ·exact h1
 ·rename_i h2
  apply Classical.byContradiction;intro hn
  exact absurd h1 (Rat.not_lt.2 (Rat.le_trans (Rat.not_lt.1 h2) (Rat.not_lt.1 hn)))
set_option maxHeartbeats 8000000 in
theorem dgEff_ok {h:IH} {v:Value} {l:List (Nat×Nat)} (hv:ShSl h v l) {k:Nat} (hk:allOk l → ∀q∈l.map rOf,QB k q) (hb:l.length≤200→eBits l.length k+eBits l.length k+100<16000000) :
  WV Proofs.Tryz.prog (.func (.func 29) #[] #[]) [v] h fun r h'=>Ext h h'∧r=effRes l:=by
 have her:=chErr_range l
 refine enter (nt:=78) (rs:=[.cell 2 30,.tmp 3]) Proofs.Tryz.func29 rfl rfl rfl (by simp) ?_
 simp -dsimp (disch:=omega) only[wpS,Nat.reduceEqDiff,zc30]
 have E1:Ext h (h.new (.cells Z16 0 none)):=(Ext.refl h).new _
 have g1:(h.new (.cells Z16 0 none)).ext.get h.n=some (.cells Z16 0 none):=by simp (disch:=first|omega|(simp only[new_n,put_n];omega)|(repeat first|rw[new_n]|rw[put_n])) only[get_new_same]
 refine call (dgcheck_ok (hv.keep E1.keep)) ?_
 rintro _ h1 ⟨X1,rfl⟩
 have m1:=X1.n
 simp only[new_n] at m1
 have k1:=X1.kept (by simp) g1
 unfold effRes
 by_cases he:chErr l=0
 case neg =>
  rw[if_neg he]
  have he':(chErr l == 0)=false:=by simpa using he
  simp -dsimp (disch:=omega) only[wpS,wpT,Nat.reduceEqDiff,Nat.reduceLeDiff,Nat.reduceAdd,bv30,st30,ld30,k1,sh_tz]
  exact⟨(E1.trans X1).put (by omega) _,by rw[sh_zeroV]⟩
 rw[if_pos he,he]
 obtain⟨e1,e2,e3⟩:=chErr_iff.1 he
 have hkk:=hk e2
 have hbb:=hb e1
 clear hk hb
 have e3':l.map rOf ≠ []:=by simpa using e3
 have hl0:0<l.length:=List.length_pos_iff.2 e3
 obtain⟨ka,hka⟩ : ∃ka,ka=aBits l.length k:=⟨_,rfl⟩
 have hab:aBits l.length k<16000000:=by
  have:1*(aBits l.length k+aBits l.length k+1+aBits l.length k+1)≤eBits l.length k:=Nat.mul_le_mul_right _ (by omega)
  omega
 have hmb:=qmean_bits (l:=l.map rOf) e3' (by simp;omega) hkk
 rw[List.length_map] at hmb
 have haB : ∀j,QB ka (qauto (l.map rOf) (qmean (l.map rOf)) j):=fun j=>by
  have:=qauto_bits (k:=j) hkk hmb (by simp;omega) e3'
  rw[List.length_map] at this
  rw[hka];exact this
 have hEv:eBits l.length k=(l.length+1)*(ka+ka+1+ka+1):=by rw[hka]
 rw[hEv] at hbb
 simp -dsimp (disch:=omega) only[wpS,wpT,Nat.reduceEqDiff]
 refine call (chain_ok (hv.keep (E1.trans X1).keep) e2 (by omega) e3 hkk (Nat.lt_of_le_of_lt (mle_a _ _) hab)) ?_
 rintro R h2 ⟨X2,hR⟩
 have m2:=X2.n
 simp -dsimp (disch:=omega) only[wpS,Nat.reduceEqDiff]
 have hauto : ∀(hh:IH) (j:Nat),Ext h2 hh→j<1000000→WV Proofs.Tryz.prog (.func (.func 74) #[R] #[]) [KN j] hh fun r h'=>Ext hh h'∧PRat h' r (qauto (l.map rOf) (qmean (l.map rOf)) j):=fun hh j e hj =>
  wv_bound (auto_any_ok (hR.keep e.keep) hj hkk hmb (by rw[List.length_map];exact hab))
 generalize hA:qauto (l.map rOf) (qmean (l.map rOf))=A at *
 refine call (hauto h2 0 (Ext.refl _) (by omega)) ?_
 rintro r3 h3 ⟨X3,p3⟩
 have m3:=X3.n
 obtain⟨a3,s3,b3,t3,rfl,_,_,_,u1,_,u2,u3,u4⟩:=p3.parts
 simp -dsimp (disch:=omega) only[wpS,wpT,Nat.reduceEqDiff,Nat.reduceLeDiff,Nat.reduceAdd,zc83,st83,fa83_0,ld81,u1,u2,u3,u4,tkA]
 obtain⟨H4,hH4⟩ : ∃H4,H4=(h3.new (.cells ZR 0 none)).put h3.n (.cells [a3,s3,b3,t3] 0 none):=⟨_,rfl⟩
 have x4:Ext h3 H4:=by rw[hH4];exact((Ext.refl _).new _).put (Nat.le_refl _) _
 have n4:H4.n=h3.n+1:=by rw[hH4];rfl
 have g6:H4.ext.get h3.n=some (.cells [a3,s3,b3,t3] 0 none):=by rw[hH4];simp (disch:=first|omega|(simp only[new_n,put_n];omega)|(repeat first|rw[new_n]|rw[put_n])) only[get_put_same]
 have k4:=x4.kept (by omega) (X3.kept (by omega) (X2.kept (by omega) k1))
 have p4:=p3.keep x4.keep
 have E4:=(((E1.trans X1).trans X2).trans X3).trans x4
 rw[←hH4]
 clear hH4
 refine call (pside_ok (rside_rat p4)) ?_
 rintro _ h5 ⟨X5,rfl⟩
 rw[side_sign]
 have m5:=X5.n
 have k5:=X5.kept (by omega) k4
 have g65:=X5.kept (by omega) g6
 have p5:=p4.keep X5.keep
 have E5:=E4.trans X5
 have E25:Ext h2 h5:=(X3.trans x4).trans X5
 by_cases hw0:A 0=0
 ·rw[if_pos hw0,hw0,if_neg (by decide),if_pos rfl]
  simp -dsimp (disch:=omega) only[wpS,wpT,Nat.reduceEqDiff,Nat.reduceLeDiff,Nat.reduceAdd,bv30,st30,ld30,k5,sh_tz]
  exact⟨E5.put (by omega) _,by rw[sh_zeroV]⟩
 obtain⟨cc,hcc,hc0⟩ : ∃c:Int,(if A 0<0 then (-1:Int) else if A 0=0 then 0 else 1)=c∧(c == 0)=false:=⟨_,rfl,by split<;>(try split)<;>first|rfl|contradiction⟩
 rw[hcc,if_neg hw0]
 simp -dsimp (disch:=omega) only[wpS,Nat.reduceEqDiff,hc0,hv.1.len sl25]
 refine call (rfrom_ok (l.length:Int) ⟨by omega,by omega⟩) ?_
 rintro r6 h6 ⟨X6,p6⟩
 have m6:=X6.n
 obtain⟨a6,s6,b6,t6,rfl,_,_,_,u1,_,u2,u3,u4⟩:=p6.parts
 simp -dsimp (disch:=omega) only[wpS,wpT,Nat.reduceEqDiff,Nat.reduceLeDiff,Nat.reduceAdd,zc83,st83,u1,u2,u3,u4]
 obtain⟨H7,hH7⟩ : ∃H4,H4=(h6.new (.cells ZR 0 none)).put h6.n (.cells [a6,s6,b6,t6] 0 none):=⟨_,rfl⟩
 have x7:Ext h6 H7:=by rw[hH7];exact((Ext.refl _).new _).put (Nat.le_refl _) _
 have n7:H7.n=h6.n+1:=by rw[hH7];rfl
 have g7:H7.ext.get h6.n=some (.cells [a6,s6,b6,t6] 0 none):=by rw[hH7];simp (disch:=first|omega|(simp only[new_n,put_n];omega)|(repeat first|rw[new_n]|rw[put_n])) only[get_put_same]
 have p7:=p6.keep x7.keep
 rw[←hH7]
 clear hH7
 refine call (rfrom_ok 0 ⟨by omega,by omega⟩) ?_
 rintro r8 h8 ⟨X8,p8⟩
 have m8:=X8.n
 obtain⟨a8,s8,b8,t8,rfl,_,_,_,u1,_,u2,u3,u4⟩:=p8.parts
 simp -dsimp (disch:=omega) only[wpS,wpT,Nat.reduceEqDiff,Nat.reduceLeDiff,Nat.reduceAdd,zc83,st83,u1,u2,u3,u4]
 have x9:Ext h8 ((h8.new (.cells ZR 0 none)).put h8.n (.cells [a8,s8,b8,t8] 0 none)):=((Ext.refl _).new _).put (Nat.le_refl _) _
 obtain⟨W,hW⟩ : ∃W,W=A 0:=⟨_,rfl⟩
 obtain⟨N,hN⟩ : ∃N,N=l.length:=⟨_,rfl⟩
 rw[←hW] at p5 hw0
 have pn:PRat H7 (.agg #[a6,s6,b6,t6]) ((N:Int):Rat):=by rw[hN];exact p7
 have St : ∀hh,Ext h8 hh→Ext h hh∧Ext h2 hh∧hh.ext.get h.n=some (.cells Z16 0 none)∧hh.ext.get h3.n=some (.cells [a3,s3,b3,t3] 0 none)∧hh.ext.get h6.n=some (.cells [a6,s6,b6,t6] 0 none)∧PRat hh (.agg #[a3,s3,b3,t3]) W∧PRat hh (.agg #[a6,s6,b6,t6]) ((N:Int):Rat):=by
  intro hh e
  have e6:=((X6.trans x7).trans X8).trans e
  exact⟨E5.trans e6,E25.trans e6,e6.kept (by omega) k5,e6.kept (by omega) g65,(X8.trans e).kept (by omega) g7,p5.keep e6.keep,pn.keep (X8.trans e).keep⟩
 have hbN:(N+1)*(ka+ka+1+ka+1)+(N+1)*(ka+ka+1+ka+1)+100<16000000:=by rw[hN];exact hbb
 have hka3:1*(ka+ka+1+ka+1)≤(N+1)*(ka+ka+1+ka+1):=Nat.mul_le_mul_right _ (by omega)
 refine loop_cut (fun fr hh => ∃a s b t,Ext h8 hh∧h8.n<hh.n∧hh.ext.get h8.n=some (.cells [a,s,b,t] 0 none)∧PRat hh (.agg #[a,s,b,t]) (effS A W N (N+1) 0 0)∧QB ((N+1)*(ka+ka+1+ka+1)) (effS A W N (N+1) 0 0)∧fget fr 2=some (ptr (2*h.n) 0)∧fget fr 7=some (ptr (2*h6.n) 0)∧fget fr 8=some (ptr (2*h8.n) 0)) ?_ ?_
 ·refine loop (fun m fr hh => ∃(i:Nat) (S:Rat) (a s b t:Value),i+m=N+1∧effS A W N m i S=effS A W N (N+1) 0 0∧QB (i*(ka+ka+1+ka+1)) S∧Ext h8 hh∧h8.n<hh.n∧hh.ext.get h8.n=some (.cells [a,s,b,t] 0 none)∧PRat hh (.agg #[a,s,b,t]) S ∧
    fget fr 0=some v∧fget fr 2=some (ptr (2*h.n) 0)∧fget fr 5=some (.func (.func 74) #[R] #[])∧fget fr 6=some (ptr (2*h3.n) 0)∧fget fr 7=some (ptr (2*h6.n) 0)∧fget fr 8=some (ptr (2*h8.n) 0)∧fget fr 9=some (KN i)) (N+1)
   ⟨0,0,a8,s8,b8,t8,by omega,rfl,by rw[Nat.zero_mul];exact QB.zero,x9,by simp,by simp (disch:=first|omega|(simp only[new_n,put_n];omega)|(repeat first|rw[new_n]|rw[put_n])) only[get_put_same],p8.keep x9.keep,by simp,by simp,by simp,by simp,by simp,by simp,by simp⟩ ?_
  rintro m fr hh ⟨i,S,a,s,b,t,him,hS,hSb,e,hn,g8,p8',f0,f2,f5,f6,f7,f8,f9⟩
  have done : ∀(x:S=effS A W N (N+1) 0 0),QB ((N+1)*(ka+ka+1+ka+1)) (effS A W N (N+1) 0 0):=fun x=>by
   rw[←x];exact hSb.mono (Nat.mul_le_mul_right _ (by omega))
  have e2i:(2:Int)*(i:Int)=((2*i:Nat):Int):=by omega
  simp -dsimp (disch:=omega) only[wpS,Nat.reduceEqDiff,f0,f9,hv.1.len sl25,e2i]
  refine bq_intro ?_ ?_<;>intro hc<;>simp only[decide_eq_true_eq,decide_eq_false_iff_not] at hc
  ·have h2i:2*i<N:=by omega
   obtain⟨m',rfl⟩ : ∃m',m=m'+1:=⟨m - 1,by omega⟩
   rw[effS,if_pos h2i] at hS
   obtain⟨y1,y2,y3,y4,y5,y6,y7⟩:=St hh e
   simp -dsimp (disch:=omega) only[wpS,wpT,Nat.reduceEqDiff,f5,f9,e2i]
   refine call (hauto hh (2*i) y2 (by omega)) ?_
   rintro ra z1 ⟨Z1,q1⟩
   have e2j:((2*i:Nat):Int)+1=((2*i+1:Nat):Int):=by omega
   simp -dsimp (disch:=omega) only[wpS,Nat.reduceEqDiff,f5,f9,e2i,e2j]
   refine call (hauto z1 (2*i+1) (y2.trans Z1) (by omega)) ?_
   rintro rb z2 ⟨Z2,q2⟩
   simp -dsimp (disch:=omega) only[wpS,Nat.reduceEqDiff]
   refine call (rplus_ok (q1.keep Z2.keep) q2 (haB _) (haB _) (by omega)) ?_
   rintro rc z3 ⟨Z3,q3⟩
   have hpB:=(haB (2*i)).add (haB (2*i+1))
   have Z13:=(Z1.trans Z2).trans Z3
   have mz:=Z13.n
   obtain⟨P,hP⟩ : ∃P,P=A (2*i)+A (2*i+1):=⟨_,rfl⟩
   rw[←hP] at q3 hS hpB
   obtain⟨c1,c2,c3,c4,rfl,_,_,_,u1,_,u2,u3,u4⟩:=q3.parts
   simp -dsimp (disch:=omega) only[wpS,wpT,Nat.reduceEqDiff,Nat.reduceLeDiff,Nat.reduceAdd,zc83,st83,fa83_0,ld81,u1,u2,u3,u4,tkA]
   obtain⟨H4,hH4⟩ : ∃H4,H4=(z3.new (.cells ZR 0 none)).put z3.n (.cells [c1,c2,c3,c4] 0 none):=⟨_,rfl⟩
   have w4:Ext z3 H4:=by rw[hH4];exact((Ext.refl _).new _).put (Nat.le_refl _) _
   have nw4:H4.n=z3.n+1:=by rw[hH4];rfl
   have gp:H4.ext.get z3.n=some (.cells [c1,c2,c3,c4] 0 none):=by rw[hH4];simp (disch:=first|omega|(simp only[new_n,put_n];omega)|(repeat first|rw[new_n]|rw[put_n])) only[get_put_same]
   have q4:=q3.keep w4.keep
   rw[←hH4]
   clear hH4
   refine call (pside_ok (rside_rat q4)) ?_
   rintro _ z5 ⟨Z5,rfl⟩
   rw[side_sign]
   have mz5:=Z5.n
   have e5:Ext hh z5:=(Z13.trans w4).trans Z5
   have gs5:=e5.kept hn g8
   have gp5:=Z5.kept (by omega) gp
   have ps5:=p8'.keep e5.keep
   have pp5:=q4.keep Z5.keep
   by_cases hp0:P≤0
   ·rw[if_pos hp0] at hS
    obtain⟨c,hc,hc0⟩ : ∃c:Int,(if P<0 then (-1:Int) else if P=0 then 0 else 1)=c∧decide (c≤0)=true:=⟨_,rfl,by
     rcases Rat.le_iff_lt_or_eq.1 hp0 with h|h
     ·rw[if_pos h];rfl
     ·rw[if_neg (by rw[h];exact Rat.lt_irrefl),if_pos h];rfl⟩
    rw[hc]
    simp -dsimp (disch:=omega) only[wpS,Nat.reduceEqDiff,hc0]
    exact⟨a,s,b,t,e.trans e5,by omega,gs5,hS▸ps5,done hS,by simp[f2],by simp[f7],by simp[f8]⟩
   ·rw[if_neg hp0] at hS
    have hpos:=Rat.not_le.1 hp0
    rw[if_neg (fun h=>hp0 (Rat.le_of_lt h)),if_neg (fun h=>hp0 (by rw[h];exact Rat.le_refl))]
    obtain⟨v1,v2,v3,v4,v5,v6,v7⟩:=St z5 (e.trans e5)
    have X0:=Ext.refl z5
    obtain⟨_,_,L1⟩:=pl4 gs5
    simp -dsimp (disch:=omega) only[wpS,wpT,Nat.reduceEqDiff]
    refine drawn [(0,[4])] (by kernel_rfl) (by kernel_rfl) rfl ?_
    simp -dsimp (disch:=omega) only[wpS,wpT,Nat.reduceEqDiff,Nat.reduceLeDiff,Nat.reduceAdd,ld83,f6,f8,row_of gs5,row_of gp5,row_of v4,tk4']
    have hWB:QB ka W:=by rw[hW];exact haB 0
    have hi1:(i+1)*(ka+ka+1+ka+1)≤(N+1)*(ka+ka+1+ka+1):=Nat.mul_le_mul_right _ (by omega)
    have hi2:(i+1)*(ka+ka+1+ka+1)=i*(ka+ka+1+ka+1)+(ka+ka+1+ka+1):=by rw[Nat.add_mul,Nat.one_mul]
    refine call (rover_ok pp5 v6 hpB hWB (by omega) hw0) ?_
    rintro rd z6 ⟨Z6,q6⟩
    simp -dsimp (disch:=omega) only[wpS,Nat.reduceEqDiff]
    refine call (rplus_ok (ps5.keep Z6.keep) q6 hSb (hpB.div hWB hw0) (by omega)) ?_
    rintro rf z7 ⟨Z7,q7⟩
    have Z67:=Z6.trans Z7
    have mz7:=Z67.n
    obtain⟨d1,d2,d3,d4,rfl,_,_,_,u1,_,u2,u3,u4⟩:=q7.parts
    have gs7:=Z67.kept (by omega) gs5
    simp -dsimp (disch:=omega) only[wpS,wpT,Nat.reduceEqDiff,Nat.reduceLeDiff,Nat.reduceAdd,st83,f8,gs7,u1,u2,u3,u4]
    refine⟨wpSteady_one rfl rfl rfl rfl (steady_ext (H0:=z5) (b:=2*h8.n) (o:=0) ?_ (by omega) (by assumption) (by assumption) L1),?_⟩
    ·exact f8
    simp -dsimp (disch:=omega) only[wpS,wpT,Nat.reduceEqDiff,Nat.reduceAdd,f9]
    refine⟨m',by omega,i+1,S+P / W,d1,d2,d3,d4,by omega,hS,?_,((e.trans e5).trans Z67).put (by omega) _,by simp only[put_n];omega,get_put_same _ _ rfl,q7.keep ((Keep.refl _).put gs7 _),by simp[f0],by simp[f2],by simp[f5],by simp[f6],by simp[f7],by simp[f8],by simp⟩
    exact(hSb.add (hpB.div hWB hw0)).mono (by omega)
  ·have hSd:S=effS A W N (N+1) 0 0:=by
    rw[←hS]
    cases m with
    | zero=>rfl
    | succ m=>rw[effS,if_neg (by omega)]
   simp -dsimp (disch:=omega) only[wpS,wpT]
   exact⟨a,s,b,t,e,hn,g8,hSd▸p8',done hSd,by simp[f2],by simp[f7],by simp[f8]⟩
 rintro fr hh ⟨a,s,b,t,e,hn,g8,pS,hSB,f2,f7,f8⟩
 obtain⟨S,hS⟩ : ∃S,S=effS A W N (N+1) 0 0:=⟨_,rfl⟩
 have hq:qlen (l.map rOf)=((N:Int):Rat):=by
  show(((l.map rOf).length:Int):Rat)=_
  rw[List.length_map,hN]
 have hres:qeff (l.map rOf)=((N:Int):Rat) / effT S ((N:Int):Rat):=by
  rw[qeff,hA,←hW,hq,List.length_map,←hN,←hS]
 have hn0:((N:Int):Rat)≠0:=by rw[←hq];exact qlen_ne e3'
 have hnp:0<((N:Int):Rat):=by rw[←hq];exact qlen_pos e3'
 have hnB:QB 17 ((N:Int):Rat):=by rw[←hq];exact qlen_bits (by simp;omega)
 rw[hres]
 rw[←hS] at pS hSB
 clear hS hres
 obtain⟨y1,y2,y3,y4,y5,y6,y7⟩:=St hh e
 obtain⟨B,hB⟩ : ∃B,B=(N+1)*(ka+ka+1+ka+1):=⟨_,rfl⟩
 rw[←hB] at hSB hbN
 have o1B:QB 0 ((1:Int):Rat):=QB.int (by decide)
 have me:=e.n
 simp -dsimp (disch:=omega) only[wpS,wpT,Nat.reduceEqDiff,Nat.reduceLeDiff,Nat.reduceAdd,ld83,f8,row_of g8,tk4']
 refine call (rplus_ok pS pS hSB hSB (by omega)) ?_
 rintro ra z1 ⟨Z1,q1⟩
 simp -dsimp (disch:=omega) only[wpS]
 refine call (rfrom_ok 1 ⟨by omega,by omega⟩) ?_
 rintro rb z2 ⟨Z2,q2⟩
 simp -dsimp (disch:=omega) only[wpS,Nat.reduceEqDiff]
 refine call (rminus_ok (q1.keep Z2.keep) q2 (hSB.add hSB) o1B (by omega)) ?_
 rintro rc z3 ⟨Z3,q3⟩
 have Z13:=(Z1.trans Z2).trans Z3
 have mz:=Z13.n
 have hTB:=(hSB.add hSB).sub o1B
 obtain⟨c1,c2,c3,c4,rfl,_,_,_,u1,_,u2,u3,u4⟩:=q3.parts
 simp -dsimp (disch:=omega) only[wpS,wpT,Nat.reduceEqDiff,Nat.reduceLeDiff,Nat.reduceAdd,zc83,st83,u1,u2,u3,u4]
 obtain⟨K0,hK0⟩ : ∃H4,H4=(z3.new (.cells ZR 0 none)).put z3.n (.cells [c1,c2,c3,c4] 0 none):=⟨_,rfl⟩
 have w4:Ext z3 K0:=by rw[hK0];exact((Ext.refl _).new _).put (Nat.le_refl _) _
 have nw4:K0.n=z3.n+1:=by rw[hK0];rfl
 have gt:K0.ext.get z3.n=some (.cells [c1,c2,c3,c4] 0 none):=by rw[hK0];simp (disch:=first|omega|(simp only[new_n,put_n];omega)|(repeat first|rw[new_n]|rw[put_n])) only[get_put_same]
 have q4:=q3.keep w4.keep
 rw[←hK0]
 clear hK0
 have Y1:=Z13.trans w4
 have gn:=Y1.kept (by omega) y5
 have X0:=Ext.refl K0
 obtain⟨_,_,L1⟩:=pl4 gn
 refine drawn [(1,[0])] (by kernel_rfl) (by kernel_rfl) rfl ?_
 simp -dsimp (disch:=omega) only[wpS]
 refine call (rfrom_ok 1 ⟨by omega,by omega⟩) ?_
 rintro rd z5 ⟨Z5,q5⟩
 have mz5:=Z5.n
 simp -dsimp (disch:=omega) only[wpS,wpT,Nat.reduceEqDiff,Nat.reduceLeDiff,Nat.reduceAdd,ld83,f7,row_of (Z5.kept (by omega) gn),tk4']
 refine call (rover_ok q5 (y7.keep (Y1.trans Z5).keep) o1B hnB (by omega) hn0) ?_
 rintro re z6 ⟨Z6,q6⟩
 have mz6:=Z6.n
 obtain⟨d1,d2,d3,d4,rfl,_,_,_,u5,_,u6,u7,u8⟩:=q6.parts
 simp -dsimp (disch:=omega) only[wpS,wpT,Nat.reduceEqDiff,Nat.reduceLeDiff,Nat.reduceAdd,zc83,st83,u5,u6,u7,u8]
 refine⟨wpSteady_one rfl rfl rfl rfl (steady_ext (H0:=K0) (b:=2*h6.n) (o:=0) f7 (by omega) (by assumption) (by assumption) L1),?_⟩
 obtain⟨K1,hK1⟩ : ∃H4,H4=(z6.new (.cells ZR 0 none)).put z6.n (.cells [d1,d2,d3,d4] 0 none):=⟨_,rfl⟩
 have w5:Ext z6 K1:=by rw[hK1];exact((Ext.refl _).new _).put (Nat.le_refl _) _
 have nw5:K1.n=z6.n+1:=by rw[hK1];rfl
 have gl:K1.ext.get z6.n=some (.cells [d1,d2,d3,d4] 0 none):=by rw[hK1];simp (disch:=first|omega|(simp only[new_n,put_n];omega)|(repeat first|rw[new_n]|rw[put_n])) only[get_put_same]
 have W1:=(Z5.trans Z6).trans w5
 have gt1:=W1.kept (by omega) gt
 have q6':=q6.keep w5.keep
 have q4':=q4.keep W1.keep
 have hLB:QB 17 (((1:Int):Rat) / ((N:Int):Rat)):=(o1B.div hnB hn0).mono (by omega)
 rw[←hK1]
 clear hK1
 simp -dsimp (disch:=omega) only[wpS,wpT,Nat.reduceEqDiff,Nat.reduceLeDiff,Nat.reduceAdd,ld83,row_of gt1,row_of gl,tk4']
 refine call (rcmp_ok q4' q6' hTB hLB (by omega)) ?_
 rintro _ z8 ⟨Z8,rfl⟩
 have mz8:=Z8.n
 have gt8:=Z8.kept (by omega) gt1
 have gl8:=Z8.kept (by omega) gl
 have V1:Ext hh z8:=(Y1.trans W1).trans Z8
 have gz8:=V1.kept (by omega) y3
 have gn8:=V1.kept (by omega) y5
 have p8n:=y7.keep V1.keep
 have hne:=effT_pos (s:=S) hnp
 have md:PRat z8 (.agg #[d1,d2,d3,d4]) (1 / ((N:Int):Rat)):=q6'.keep Z8.keep
 have mt:PRat z8 (.agg #[c1,c2,c3,c4]) (S+S - 1):=q4'.keep Z8.keep
 have hTB':QB (B+B+1+0+1) (S+S - 1):=hTB
 have hLB':QB 17 (1 / ((N:Int):Rat)):=hLB
 obtain⟨_,_,_,_,hh6,_,_,_,u5,_,u6,u7,u8⟩:=md.parts
 cases hh6
 by_cases hlt:S+S - 1<1 / ((N:Int):Rat)
 ·have hTT:effT S ((N:Int):Rat)=1 / ((N:Int):Rat):=by rw[effT,if_pos hlt]
  rw[show((1:Int):Rat)=1 from rfl,if_pos hlt]
  simp -dsimp (disch:=omega) only[wpS,wpT,Nat.reduceEqDiff,Nat.reduceLeDiff,Nat.reduceAdd,st83,ld83,row_of gl8,gt8,u5,u6,u7,u8,tk4',f7,row_of gn8]
  have kq:Keep z8 (z8.put z3.n (.cells [d1,d2,d3,d4] 0 none)):=(Keep.refl z8).put gt8 _
  have pl9:=md.keep kq
  refine call (rover_ok (p8n.keep kq) pl9 hnB hLB' (by omega) (by rw[←hTT];exact fun h=>absurd hne (by rw[h];exact Rat.lt_irrefl))) ?_
  rintro rg z9 ⟨Z9,q9⟩
  have mz9:=(Z9).n;try simp only[put_n] at mz9
  rw[←hTT] at q9
  simp -dsimp (disch:=omega) only[wpS,Nat.reduceEqDiff]
  refine call (rtold_ok q9) ?_
  rintro _ za ⟨Za,rfl⟩
  obtain⟨n,d,ee,hf⟩:=toldV_form (((N:Int):Rat) / effT S ((N:Int):Rat))
  have hf':=hf
  unfold toldV at hf'
  rw[hf',hf]
  have kg:za.ext.get h.n=some (.cells Z16 0 none):=Za.kept (by omega) (Z9.kept (by simp only[put_n];omega) (by simp (disch:=first|omega|(simp only[new_n,put_n];omega)|(repeat first|rw[new_n]|rw[put_n])) only[get_put_old];exact gz8))
  simp -dsimp (disch:=omega) only[wpS,wpT,Nat.reduceEqDiff,Nat.reduceLeDiff,Nat.reduceAdd,st30,ld30,kg,f2,shV_cells,shC_len,shC_all,sh_sp3,sh_take]
  exact⟨((((y1.trans V1).put (by omega) _).trans Z9).trans Za).put (by omega) _,rfl⟩
 ·have hTT:effT S ((N:Int):Rat)=S+S - 1:=by rw[effT,if_neg hlt]
  rw[show((1:Int):Rat)=1 from rfl,if_neg hlt]
  obtain⟨cx,hcx,hcx0⟩ : ∃c:Int,(if S+S - 1=1 / ((N:Int):Rat) then (0:Int) else 1)=c∧decide (c<0)=false:=⟨_,rfl,by split<;>rfl⟩
  rw[hcx]
  simp -dsimp (disch:=omega) only[wpS,wpT,Nat.reduceEqDiff,Nat.reduceLeDiff,Nat.reduceAdd,ld83,hcx0,row_of gt8,tk4',f7,row_of gn8]
  refine call (rover_ok (p8n.keep (Keep.refl _)) mt hnB hTB' (by omega) (by rw[←hTT];exact fun h=>absurd hne (by rw[h];exact Rat.lt_irrefl))) ?_
  rintro rg z9 ⟨Z9,q9⟩
  have mz9:=(Z9).n;try simp only[new_n,put_n] at mz9
  rw[←hTT] at q9
  simp -dsimp (disch:=omega) only[wpS,Nat.reduceEqDiff]
  refine call (rtold_ok q9) ?_
  rintro _ za ⟨Za,rfl⟩
  obtain⟨n,d,ee,hf⟩:=toldV_form (((N:Int):Rat) / effT S ((N:Int):Rat))
  have hf':=hf
  unfold toldV at hf'
  rw[hf',hf]
  have kg:za.ext.get h.n=some (.cells Z16 0 none):=Za.kept (by omega) (Z9.kept (by omega) gz8)
  simp -dsimp (disch:=omega) only[wpS,wpT,Nat.reduceEqDiff,Nat.reduceLeDiff,Nat.reduceAdd,st30,ld30,kg,f2,shV_cells,shC_len,shC_all,sh_sp3,sh_take]
  exact⟨(((y1.trans V1).trans Z9).trans Za).put (by omega) _,rfl⟩
end Go.Id

/-! Contracts: the reference's chapter 35: spreads. -/
namespace Go.Id
open Go
end Go.Id

/-! Contracts: the reference's chapter 35: Mean, Auto. -/
namespace Go.Id
open Go
set_option maxHeartbeats 1000000 in
theorem rfMean_ok {h:IH} {v:Value} {l:List (Nat×Nat)} (hv:ShSl h v l) {k:Nat} (hk:allOk l → ∀q∈l.map rOf,QB k q) (hb:l.length≤200→mBits l.length k<16000000) :
  WV Proofs.Tryz.prog (.func (.func 28) #[] #[]) [v] h fun r h'=>Ext h h'∧r=meanRes l:=by
 have her:=chErr_range l
 refine enter (nt:=17) (rs:=[.cell 2 30,.tmp 3]) Proofs.Tryz.func28 rfl rfl rfl (by simp) ?_
 simp -dsimp (disch:=omega) only[wpS,Nat.reduceEqDiff,zc30]
 have E1:Ext h (h.new (.cells Z16 0 none)):=(Ext.refl h).new _
 have g1:(h.new (.cells Z16 0 none)).ext.get h.n=some (.cells Z16 0 none):=by simp (disch:=first|omega|(simp only[new_n,put_n];omega)|(repeat first|rw[new_n]|rw[put_n])) only[get_new_same]
 refine call (rfright_ok (hv.keep E1.keep)) ?_
 rintro _ h1 ⟨X1,rfl⟩
 have m1:=X1.n
 simp only[new_n] at m1
 have k1:=X1.kept (by simp) g1
 unfold meanRes
 by_cases he:chErr l=0
 ·rw[if_pos he,he]
  obtain⟨e1,e2,e3⟩:=chErr_iff.1 he
  simp -dsimp (disch:=omega) only[wpS,wpT,Nat.reduceEqDiff]
  refine call (rfvalues_ok (hv.keep (E1.trans X1).keep) e2 (by omega)) ?_
  rintro s h2 ⟨X2,hs⟩
  have m2:=X2.n
  simp -dsimp (disch:=omega) only[wpS,Nat.reduceEqDiff]
  refine call (rfaverage_ok hs (by simpa using e3) (hk e2) (by rw[List.length_map];exact hb e1)) ?_
  rintro r3 h3 ⟨X3,p3⟩
  have m3:=X3.n
  simp -dsimp (disch:=omega) only[wpS,Nat.reduceEqDiff]
  refine call (refout_ok p3) ?_
  rintro _ h4 ⟨X4,rfl⟩
  have m4:=X4.n
  have kg:=X4.kept (by omega) (X3.kept (by omega) (X2.kept (by omega) k1))
  obtain⟨n,d,e,hf⟩:=toldV_form (qmean (l.map rOf))
  have hf':=hf
  unfold toldV at hf'
  rw[hf',hf]
  simp -dsimp (disch:=omega) only[wpS,wpT,Nat.reduceEqDiff,Nat.reduceLeDiff,Nat.reduceAdd,st30,ld30,kg,shV_cells,shC_len,shC_all,sh_sp3,sh_take]
  exact⟨((((E1.trans X1).trans X2).trans X3).trans X4).put (by omega) _,rfl⟩
 ·rw[if_neg he]
  have he':(chErr l == 0)=false:=by simpa using he
  simp -dsimp (disch:=omega) only[wpS,wpT,Nat.reduceEqDiff,Nat.reduceLeDiff,Nat.reduceAdd,bv30,st30,ld30,k1,sh_tz]
  exact⟨(E1.trans X1).put (by omega) _,by rw[sh_zeroV]⟩
set_option maxHeartbeats 1000000 in
theorem rfAuto_ok {h:IH} {v:Value} {l:List (Nat×Nat)} {lag:Int} (hv:ShSl h v l) {k:Nat} (hk:allOk l → ∀q∈l.map rOf,QB k q) (hb:l.length≤200→aBits l.length k<16000000) :
  WV Proofs.Tryz.prog (.func (.func 31) #[] #[]) [v,KI lag] h fun r h'=>Ext h h'∧r=autoRes l lag:=by
 have her:=chErr_range l
 refine enter (nt:=30) (rs:=[.cell 4 30,.tmp 5]) Proofs.Tryz.func31 rfl rfl rfl (by simp) ?_
 simp -dsimp (disch:=omega) only[wpS,Nat.reduceEqDiff,Nat.reduceAdd,zc30]
 have E1:Ext h (h.new (.cells Z16 0 none)):=(Ext.refl h).new _
 have g1:(h.new (.cells Z16 0 none)).ext.get h.n=some (.cells Z16 0 none):=by simp (disch:=first|omega|(simp only[new_n,put_n];omega)|(repeat first|rw[new_n]|rw[put_n])) only[get_new_same]
 refine call (rfright_ok (hv.keep E1.keep)) ?_
 rintro _ h1 ⟨X1,rfl⟩
 have m1:=X1.n
 simp only[new_n] at m1
 have k1:=X1.kept (by simp) g1
 unfold autoRes
 by_cases he:chErr l=0
 ·rw[if_pos he,he]
  obtain⟨e1,e2,e3⟩:=chErr_iff.1 he
  by_cases hl:0≤lag∧lag<l.length
  ·rw[if_pos hl]
   obtain⟨j,rfl⟩:=Int.eq_ofNat_of_zero_le hl.1
   have hj:j<l.length:=by omega
   have c1:decide ((j:Int)<0)=false:=decide_eq_false (by omega)
   have c2:decide ((l.length:Int)≤(j:Int))=false:=decide_eq_false (by omega)
   simp -dsimp (disch:=omega) only[wpS,wpT,Nat.reduceEqDiff,hv.1.len sl25,c1]
   refine call (rfvalues_ok (hv.keep (E1.trans X1).keep) e2 (by omega)) ?_
   rintro s h2 ⟨X2,hs⟩
   have m2:=X2.n
   simp -dsimp (disch:=omega) only[wpS,Nat.reduceEqDiff]
   refine call (rfauto_ok hs (by simpa using e3) (by omega) (hk e2) (by rw[List.length_map];exact hb e1)) ?_
   rintro r3 h3 ⟨X3,p3⟩
   have m3:=X3.n
   simp -dsimp (disch:=omega) only[wpS,Nat.reduceEqDiff]
   refine call (refout_ok p3) ?_
   rintro _ h4 ⟨X4,rfl⟩
   have m4:=X4.n
   have kg:=X4.kept (by omega) (X3.kept (by omega) (X2.kept (by omega) k1))
   rw[Int.toNat_natCast]
   obtain⟨n,d,e,hf⟩:=toldV_form (qauto (l.map rOf) (qmean (l.map rOf)) j)
   have hf':=hf
   unfold toldV at hf'
   rw[hf',hf]
   simp -dsimp (disch:=omega) only[wpS,wpT,Nat.reduceEqDiff,Nat.reduceLeDiff,Nat.reduceAdd,st30,ld30,kg,shV_cells,shC_len,shC_all,sh_sp3,sh_take]
   exact⟨((((E1.trans X1).trans X2).trans X3).trans X4).put (by omega) _,rfl⟩
  ·rw[if_neg hl]
   by_cases hneg:lag<0
   ·have c1:decide (lag<0)=true:=decide_eq_true hneg
    simp -dsimp (disch:=omega) only[wpS,wpT,Nat.reduceEqDiff,Nat.reduceLeDiff,Nat.reduceAdd,bv30,st30,ld30,c1,k1,sh_tz]
    exact⟨(E1.trans X1).put (by omega) _,by rw[sh_zeroV]⟩
   ·have c1:decide (lag<0)=false:=decide_eq_false hneg
    have c2:decide ((l.length:Int)≤lag)=true:=decide_eq_true (by omega)
    simp -dsimp (disch:=omega) only[wpS,wpT,Nat.reduceEqDiff,Nat.reduceLeDiff,Nat.reduceAdd,bv30,st30,ld30,hv.1.len sl25,c1,k1,sh_tz]
    exact⟨(E1.trans X1).put (by omega) _,by rw[sh_zeroV]⟩
 ·rw[if_neg he]
  have he':(chErr l == 0)=false:=by simpa using he
  simp -dsimp (disch:=omega) only[wpS,wpT,Nat.reduceEqDiff,Nat.reduceLeDiff,Nat.reduceAdd,bv30,st30,ld30,k1,sh_tz]
  exact⟨(E1.trans X1).put (by omega) _,by rw[sh_zeroV]⟩
end Go.Id

/-! Contracts: the reference's chapter 35: the variance within, and that of the means. -/
namespace Go.Id
open Go
abbrev iBits (m n k:Nat):Nat:=m*(aBits n k+17+1)+17
abbrev oBits (m n k:Nat):Nat:=aBits m (mBits n k)+17
end Go.Id

/-! Contracts: package diagnose: Within, Means, Ratio. -/
namespace Go.Id
open Go
def qratioV (ll:List (List (Nat×Nat))):Rat:=((((len0 ll - 1:Nat):Int):Rat) / (((len0 ll:Nat):Int):Rat)*qwithin ll+qmeansV ll) / qwithin ll
noncomputable def withinRes (ll:List (List (Nat×Nat))):Value:=if svErr ll=0 then toldV (qwithin ll) else errV (svErr ll)
noncomputable def meansRes (ll:List (List (Nat×Nat))):Value:=if svErr ll=0 then toldV (qmeansV ll) else errV (svErr ll)
noncomputable def ratioRes (ll:List (List (Nat×Nat))):Value:=if svErr ll=0 then (if qwithin ll=0 then errV 7 else toldV (qratioV ll)) else errV (svErr ll)
abbrev rBits (m n k:Nat):Nat:=17+17+wBits m n k+vBits m n k+1+wBits m n k
set_option maxHeartbeats 1000000 in
theorem dgWithin_ok {h:IH} {v:Value} {ll:List (List (Nat×Nat))} {k:Nat} (hv:ShLs h v ll) (hk:svErr ll=0→SvOk ll k∧rBits ll.length (len0 ll) k<16000000) :
  WV Proofs.Tryz.prog (.func (.func 13) #[] #[]) [v] h fun r h'=>Ext h h'∧r=withinRes ll:=by
 refine enter (nt:=16) (rs:=[.cell 2 30,.tmp 3]) Proofs.Tryz.func13 rfl rfl rfl (by simp) ?_
 simp -dsimp (disch:=omega) only[wpS,Nat.reduceEqDiff,zc30]
 have E1:Ext h (h.new (.cells Z16 0 none)):=(Ext.refl h).new _
 have g1:(h.new (.cells Z16 0 none)).ext.get h.n=some (.cells Z16 0 none):=by simp (disch:=first|omega|(simp only[new_n,put_n];omega)|(repeat first|rw[new_n]|rw[put_n])) only[get_new_same]
 refine call (several_ok (hv.keep E1.keep)) ?_
 rintro _ h1 ⟨X1,rfl⟩
 have m1:=X1.n
 simp only[new_n] at m1
 have k1:=X1.kept (by simp) g1
 unfold withinRes
 by_cases he:svErr ll=0
 ·obtain⟨s,hb⟩:=hk he
  have hb:17+17+wBits ll.length (len0 ll) k+vBits ll.length (len0 ll) k+1+wBits ll.length (len0 ll) k<16000000:=hb
  rw[if_pos he,he]
  simp -dsimp (disch:=omega) only[wpS,wpT,Nat.reduceEqDiff]
  refine call (dgwithin_ok (hv.keep (E1.trans X1).keep) s (by omega)) ?_
  rintro r2 h2 ⟨X2,p2⟩
  have m2:=X2.n
  simp -dsimp (disch:=omega) only[wpS,Nat.reduceEqDiff]
  refine call (rtold_ok p2) ?_
  rintro _ h4 ⟨X4,rfl⟩
  have kg:=X4.kept (by omega) (X2.kept (by omega) k1)
  have m4:=X4.n
  obtain⟨n,d,e,hf⟩:=toldV_form (qwithin ll)
  have hf':=hf
  unfold toldV at hf'
  rw[hf',hf]
  simp -dsimp (disch:=omega) only[wpS,wpT,Nat.reduceEqDiff,Nat.reduceLeDiff,Nat.reduceAdd,st30,ld30,kg,shV_cells,shC_len,shC_all,sh_sp3,sh_take]
  exact⟨(((E1.trans X1).trans X2).trans X4).put (by omega) _,rfl⟩
 ·rw[if_neg he]
  have he':(svErr ll == 0)=false:=by simpa using he
  simp -dsimp (disch:=omega) only[wpS,wpT,Nat.reduceEqDiff,Nat.reduceLeDiff,Nat.reduceAdd,bv30,st30,ld30,k1,sh_tz]
  exact⟨(E1.trans X1).put (by omega) _,by rw[sh_zeroV]⟩
set_option maxHeartbeats 1000000 in
theorem dgMeans_ok {h:IH} {v:Value} {ll:List (List (Nat×Nat))} {k:Nat} (hv:ShLs h v ll) (hk:svErr ll=0→SvOk ll k∧rBits ll.length (len0 ll) k<16000000) :
  WV Proofs.Tryz.prog (.func (.func 15) #[] #[]) [v] h fun r h'=>Ext h h'∧r=meansRes ll:=by
 refine enter (nt:=16) (rs:=[.cell 2 30,.tmp 3]) Proofs.Tryz.func15 rfl rfl rfl (by simp) ?_
 simp -dsimp (disch:=omega) only[wpS,Nat.reduceEqDiff,zc30]
 have E1:Ext h (h.new (.cells Z16 0 none)):=(Ext.refl h).new _
 have g1:(h.new (.cells Z16 0 none)).ext.get h.n=some (.cells Z16 0 none):=by simp (disch:=first|omega|(simp only[new_n,put_n];omega)|(repeat first|rw[new_n]|rw[put_n])) only[get_new_same]
 refine call (several_ok (hv.keep E1.keep)) ?_
 rintro _ h1 ⟨X1,rfl⟩
 have m1:=X1.n
 simp only[new_n] at m1
 have k1:=X1.kept (by simp) g1
 unfold meansRes
 by_cases he:svErr ll=0
 ·obtain⟨s,hb⟩:=hk he
  have hb:17+17+wBits ll.length (len0 ll) k+vBits ll.length (len0 ll) k+1+wBits ll.length (len0 ll) k<16000000:=hb
  rw[if_pos he,he]
  simp -dsimp (disch:=omega) only[wpS,wpT,Nat.reduceEqDiff]
  refine call (dgmeans_ok (hv.keep (E1.trans X1).keep) s (by omega)) ?_
  rintro r2 h2 ⟨X2,p2⟩
  have m2:=X2.n
  simp -dsimp (disch:=omega) only[wpS,Nat.reduceEqDiff]
  refine call (rtold_ok p2) ?_
  rintro _ h4 ⟨X4,rfl⟩
  have kg:=X4.kept (by omega) (X2.kept (by omega) k1)
  have m4:=X4.n
  obtain⟨n,d,e,hf⟩:=toldV_form (qmeansV ll)
  have hf':=hf
  unfold toldV at hf'
  rw[hf',hf]
  simp -dsimp (disch:=omega) only[wpS,wpT,Nat.reduceEqDiff,Nat.reduceLeDiff,Nat.reduceAdd,st30,ld30,kg,shV_cells,shC_len,shC_all,sh_sp3,sh_take]
  exact⟨(((E1.trans X1).trans X2).trans X4).put (by omega) _,rfl⟩
 ·rw[if_neg he]
  have he':(svErr ll == 0)=false:=by simpa using he
  simp -dsimp (disch:=omega) only[wpS,wpT,Nat.reduceEqDiff,Nat.reduceLeDiff,Nat.reduceAdd,bv30,st30,ld30,k1,sh_tz]
  exact⟨(E1.trans X1).put (by omega) _,by rw[sh_zeroV]⟩
set_option maxHeartbeats 4000000 in
theorem dgRatio_ok {h:IH} {v:Value} {ll:List (List (Nat×Nat))} {k:Nat} (hv:ShLs h v ll) (hk:svErr ll=0→SvOk ll k∧rBits ll.length (len0 ll) k<16000000) :
  WV Proofs.Tryz.prog (.func (.func 17) #[] #[]) [v] h fun r h'=>Ext h h'∧r=ratioRes ll:=by
 refine enter (nt:=45) (rs:=[.cell 2 30,.tmp 3]) Proofs.Tryz.func17 rfl rfl rfl (by simp) ?_
 simp -dsimp (disch:=omega) only[wpS,Nat.reduceEqDiff,zc30]
 have E1:Ext h (h.new (.cells Z16 0 none)):=(Ext.refl h).new _
 have g1:(h.new (.cells Z16 0 none)).ext.get h.n=some (.cells Z16 0 none):=by simp (disch:=first|omega|(simp only[new_n,put_n];omega)|(repeat first|rw[new_n]|rw[put_n])) only[get_new_same]
 refine call (several_ok (hv.keep E1.keep)) ?_
 rintro _ h1 ⟨X1,rfl⟩
 have m1:=X1.n
 simp only[new_n] at m1
 have k1:=X1.kept (by simp) g1
 unfold ratioRes
 by_cases he:svErr ll=0
 case neg =>
  rw[if_neg he]
  have he':(svErr ll == 0)=false:=by simpa using he
  simp -dsimp (disch:=omega) only[wpS,wpT,Nat.reduceEqDiff,Nat.reduceLeDiff,Nat.reduceAdd,bv30,st30,ld30,k1,sh_tz]
  exact⟨(E1.trans X1).put (by omega) _,by rw[sh_zeroV]⟩
 obtain⟨s,hb⟩:=hk he
 have hb:17+17+wBits ll.length (len0 ll) k+vBits ll.length (len0 ll) k+1+wBits ll.length (len0 ll) k<16000000:=hb
 obtain⟨l1,l2,hx⟩:=sv_zero he
 obtain⟨x0,hx0,hxm0,hl0⟩:=len0_at l1
 obtain⟨y1,y2,y3,y4⟩:=hx x0 hxm0
 rw[if_pos he,he]
 simp -dsimp (disch:=omega) only[wpS,wpT,Nat.reduceEqDiff]
 refine call (dgwithin_ok (hv.keep (E1.trans X1).keep) s (by omega)) ?_
 rintro _ h2 ⟨X2,p2⟩
 have m2:=X2.n
 obtain⟨a2,s2,b2,t2,rfl,_,_,_,u1,_,u2,u3,u4⟩:=p2.parts
 simp -dsimp (disch:=omega) only[wpS,wpT,Nat.reduceEqDiff,Nat.reduceLeDiff,Nat.reduceAdd,zc83,st83,fa83_0,ld81,u1,u2,u3,u4,tkA]
 obtain⟨H3,hH3⟩ : ∃H3,H3=(h2.new (.cells ZR 0 none)).put h2.n (.cells [a2,s2,b2,t2] 0 none):=⟨_,rfl⟩
 have e3:Ext h2 H3:=by rw[hH3];exact((Ext.refl _).new _).put (Nat.le_refl _) _
 have n3:H3.n=h2.n+1:=by rw[hH3];rfl
 have gw:H3.ext.get h2.n=some (.cells [a2,s2,b2,t2] 0 none):=by rw[hH3];simp (disch:=first|omega|(simp only[new_n,put_n];omega)|(repeat first|rw[new_n]|rw[put_n])) only[get_put_same]
 have p3:=p2.keep e3.keep
 rw[←hH3]
 clear hH3
 refine call (pside_ok (rside_rat p3)) ?_
 rintro _ h5 ⟨X5,rfl⟩
 rw[side_sign]
 have m5:=X5.n
 have k5:=X5.kept (by omega) (e3.kept (by omega) (X2.kept (by omega) k1))
 have E5:=(((E1.trans X1).trans X2).trans e3).trans X5
 have gw5:=X5.kept (by omega) gw
 have p5:=p3.keep X5.keep
 obtain⟨W,hW⟩ : ∃W,W=qwithin ll:=⟨_,rfl⟩
 have hWB:=s.within
 rw[←hW] at p5 hWB ⊢
 by_cases hw0:W=0
 ·rw[if_pos hw0,hw0,if_neg (by decide),if_pos rfl]
  simp -dsimp (disch:=omega) only[wpS,wpT,Nat.reduceEqDiff,Nat.reduceLeDiff,Nat.reduceAdd,bv30,st30,ld30,k5,sh_tz]
  exact⟨E5.put (by omega) _,by rw[sh_zeroV]⟩
 obtain⟨cc,hcc,hc0⟩ : ∃c:Int,(if W<0 then (-1:Int) else if W=0 then 0 else 1)=c∧(c == 0)=false:=⟨_,rfl,by split<;>(try split)<;>first|rfl|contradiction⟩
 rw[hcc,if_neg hw0]
 obtain⟨w,q1,q2,q3⟩:=hv.at E5.keep hx0
 have q3':indexAddr Proofs.Tryz.prog 22 v (.int .i64 0)=some (elemAddr v 0):=q3 .i64
 simp -dsimp (disch:=omega) only[wpS,Nat.reduceEqDiff,hc0,q1,q3',q2.1.len sl25]
 refine call (rfrom_ok (x0.length:Int) ⟨by omega,by omega⟩) ?_
 rintro _ h6 ⟨X6,p6⟩
 have m6:=X6.n
 obtain⟨a6,s6,b6,t6,rfl,_,_,_,u1,_,u2,u3,u4⟩:=p6.parts
 simp -dsimp (disch:=omega) only[wpS,wpT,Nat.reduceEqDiff,Nat.reduceLeDiff,Nat.reduceAdd,zc83,st83,u1,u2,u3,u4]
 obtain⟨K0,hK0⟩ : ∃H3,H3=(h6.new (.cells ZR 0 none)).put h6.n (.cells [a6,s6,b6,t6] 0 none):=⟨_,rfl⟩
 have e7:Ext h6 K0:=by rw[hK0];exact((Ext.refl _).new _).put (Nat.le_refl _) _
 have n7:K0.n=h6.n+1:=by rw[hK0];rfl
 have gn:K0.ext.get h6.n=some (.cells [a6,s6,b6,t6] 0 none):=by rw[hK0];simp (disch:=first|omega|(simp only[new_n,put_n];omega)|(repeat first|rw[new_n]|rw[put_n])) only[get_put_same]
 have p7:=p6.keep e7.keep
 rw[←hK0]
 clear hK0
 have X67:=X6.trans e7
 have gw7:=X67.kept (by omega) gw5
 have k7:=X67.kept (by omega) k5
 have E7:=E5.trans X67
 obtain⟨w',r1,r2,r3⟩:=hv.at E7.keep hx0
 have X0:=Ext.refl K0
 obtain⟨_,_,L1⟩:=pl4 gn
 have eN:(x0.length:Int) - 1=((len0 ll - 1:Nat):Int):=by omega
 have pn:PRat K0 (.agg #[a6,s6,b6,t6]) (((len0 ll:Nat):Int):Rat):=by rw[hl0];exact p7
 refine drawn [(6,[5])] (by kernel_rfl) (by kernel_rfl) rfl ?_
 simp -dsimp (disch:=omega) only[wpS,Nat.reduceEqDiff,r1,q3',r2.1.len sl25,eN]
 refine call (rfrom_ok ((len0 ll - 1:Nat):Int) ⟨by omega,by omega⟩) ?_
 rintro r8 h8 ⟨X8,p8⟩
 have m8:=X8.n
 simp -dsimp (disch:=omega) only[wpS,wpT,Nat.reduceEqDiff,Nat.reduceLeDiff,Nat.reduceAdd,ld83,row_of (X8.kept (by omega) gn),tk4']
 have hnB:QB 17 (((len0 ll:Nat):Int):Rat):=small_rat (by omega)
 have hn1:QB 17 (((len0 ll - 1:Nat):Int):Rat):=small_rat (by omega)
 have hn0:(((len0 ll:Nat):Int):Rat)≠0:=nat_rat_ne (by omega)
 refine call (rover_ok p8 (pn.keep X8.keep) hn1 hnB (by omega) hn0) ?_
 rintro _ h9 ⟨X9,p9⟩
 have m9:=X9.n
 obtain⟨a9,s9,b9,t9,rfl,_,_,_,u1,_,u2,u3,u4⟩:=p9.parts
 simp -dsimp (disch:=omega) only[wpS,wpT,Nat.reduceEqDiff,Nat.reduceLeDiff,Nat.reduceAdd,zc83,st83,u1,u2,u3,u4]
 refine⟨by repeat' first|refine wpSteady_c2 ?_ ?_|refine wpSteady_t2 ?_ ?_|exact wpSteady_one rfl rfl rfl rfl (steady_ext (H0:=K0) rfl (by omega) (by assumption) (by assumption) (by with_reducible assumption)),?_⟩
 obtain⟨K1,hK1⟩ : ∃H3,H3=(h9.new (.cells ZR 0 none)).put h9.n (.cells [a9,s9,b9,t9] 0 none):=⟨_,rfl⟩
 have ea:Ext h9 K1:=by rw[hK1];exact((Ext.refl _).new _).put (Nat.le_refl _) _
 have na:K1.n=h9.n+1:=by rw[hK1];rfl
 have gp:K1.ext.get h9.n=some (.cells [a9,s9,b9,t9] 0 none):=by rw[hK1];simp (disch:=first|omega|(simp only[new_n,put_n];omega)|(repeat first|rw[new_n]|rw[put_n])) only[get_put_same]
 have pa:=p9.keep ea.keep
 rw[←hK1]
 clear hK1 X0
 have Xa:=(X8.trans X9).trans ea
 have gwa:=Xa.kept (by omega) gw7
 have ka:=Xa.kept (by omega) k7
 have Ea:=E7.trans Xa
 have pw:=p5.keep (X67.trans Xa).keep
 have X0:=Ext.refl K1
 obtain⟨_,_,L2⟩:=pl4 gwa
 have hPB:=hn1.div hnB hn0
 simp -dsimp (disch:=omega) only[wpS,wpT,Nat.reduceAdd]
 refine drawn [(6,[2,4,5])] (by kernel_rfl) (by kernel_rfl) rfl ?_
 simp -dsimp (disch:=omega) only[wpS,wpT,Nat.reduceEqDiff,Nat.reduceLeDiff,Nat.reduceAdd,ld83,row_of gwa,row_of gp,tk4']
 refine call (rtimes_ok pa pw hPB hWB (by omega)) ?_
 rintro rb hb1 ⟨Xb,pb⟩
 have mb:=Xb.n
 simp -dsimp (disch:=omega) only[wpS,Nat.reduceEqDiff]
 refine call (dgmeans_ok (hv.keep (Ea.trans Xb).keep) s (by omega)) ?_
 rintro rc hc1 ⟨Xc,pc⟩
 have mc:=Xc.n
 simp -dsimp (disch:=omega) only[wpS,Nat.reduceEqDiff]
 have hMB:=s.means
 refine call (rplus_ok (pb.keep Xc.keep) pc (hPB.mul hWB) hMB (by omega)) ?_
 rintro rd hd1 ⟨Xd,pd⟩
 have md:=Xd.n
 have Xbd:=(Xb.trans Xc).trans Xd
 have Xbc:=Xb.trans Xc
 simp -dsimp (disch:=omega) only[wpS,wpT,Nat.reduceEqDiff,Nat.reduceLeDiff,Nat.reduceAdd,ld83,row_of (Xbd.kept (by omega) gwa),tk4']
 refine call (rover_ok pd (pw.keep Xbd.keep) ((hPB.mul hWB).add hMB) hWB (by omega) hw0) ?_
 rintro re he1 ⟨Xe,pe⟩
 have me:=Xe.n
 have Xbe:=Xbd.trans Xe
 simp -dsimp (disch:=omega) only[wpS,Nat.reduceEqDiff]
 refine call (rtold_ok pe) ?_
 rintro _ hf1 ⟨Xf,rfl⟩
 have mf:=Xf.n
 have Xbf:=Xbe.trans Xf
 have hres:qratioV ll=((((len0 ll - 1:Nat):Int):Rat) / (((len0 ll:Nat):Int):Rat)*W+qmeansV ll) / W:=by rw[hW];rfl
 rw[hres]
 obtain⟨n,d,e,hf⟩:=toldV_form (((((len0 ll - 1:Nat):Int):Rat) / (((len0 ll:Nat):Int):Rat)*W+qmeansV ll) / W)
 have hf':=hf
 unfold toldV at hf'
 rw[hf',hf]
 have kg:=Xbf.kept (by omega) ka
 simp -dsimp (disch:=omega) only[wpS,wpT,Nat.reduceEqDiff,Nat.reduceLeDiff,Nat.reduceAdd,st30,kg,shV_cells,shC_len,shC_all,sh_sp3]
 refine⟨by repeat' first|refine wpSteady_c2 ?_ ?_|refine wpSteady_t2 ?_ ?_|exact wpSteady_one rfl rfl rfl rfl (steady_ext (H0:=K1) rfl (by omega) (by assumption) (by assumption) (by with_reducible assumption)),?_⟩
 simp -dsimp (disch:=omega) only[wpS,wpT,Nat.reduceEqDiff,Nat.reduceLeDiff,Nat.reduceAdd,ld30,shC_len,sh_take]
 exact⟨(Ea.trans Xbf).put (by omega) _,rfl⟩
end Go.Id

/-! Contracts: the reference's chapter 35: Within, Means. -/
namespace Go.Id
open Go
abbrev rfBits (m n k:Nat):Nat:=rBits m n k+iBits m n k+oBits m n k
end Go.Id
