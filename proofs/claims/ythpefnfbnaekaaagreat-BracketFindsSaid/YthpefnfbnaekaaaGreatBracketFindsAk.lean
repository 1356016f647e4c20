/-
  Contracts: the program's long integers: sums, differences, products, quotients, divisors. Contracts: the reference's long integers, ninth part: read as integers. Contracts: wide integers of the program: from and to integers. Contracts: the program's magnitudes and numbers, read and told. Contracts: the program's wide integers as long ones, and back. Contracts: the program's long integers told; integers as long ones. Contracts: the program's long integers: divisors, quotients with remainders.
-/
import Derived.Test.YthpefnfbnaekaaaGreatBracketFindsAj
import Derived.Test.YthpefnfbnaekaaaGreatBracketFindsAi
set_option linter.unusedVariables false
set_option linter.unusedSimpArgs false
set_option linter.defProp false
set_option linter.deprecated false
/-! Contracts: the program's long integers: sums, differences, products, quotients, divisors. -/
namespace Go.Id
open Go
theorem small64' {ds:List Nat} (n:B.Norm ds) (h:Small (B.valD ds)):ds.length≤1000000:=by
 refine n.lenlt (Nat.lt_of_lt_of_le h.lt ?_)
 exact pow_base 4294967296 18446744073709551616 1000000 (by decide)
theorem half64' {ds:List Nat} (n:B.Norm ds) (h:Half (B.valD ds)):ds.length≤500000:=by
 refine n.lenlt (Nat.lt_of_lt_of_le h.lt ?_)
 exact pow_base 4294967296 18446744073709551616 500000 (by decide)
abbrev ZL:List Value:=[.bool false,.slice none 0 0]
theorem pturned_ok {h:IH} {v:Value} {z:Int} (hv:PLong h v z):WV Proofs.Tryz.prog (.func (.func 141) #[] #[]) [v] h fun r h'=>Ext h h'∧PLong h' r (-z):=by
 obtain⟨s,rfl,ds,hD,hN,hx⟩:=hv
 refine enter (nt:=9) (rs:=[.cell 2 94]) Proofs.Tryz.func141 rfl rfl rfl (by simp) ?_
 simp -dsimp (maxSteps:=1000000) (disch:=first|omega|(simp only[new_n,put_n];omega)|decide +kernel|(repeat first|rw[new_n]|rw[put_n])) only[wpS,Nat.reduceEqDiff,zc94,fa94_0,ld4,fa94_1,ld92]
 refine call (trimmed_ok (hD.keep (((Keep.refl h).new _).new _)) _) ?_
 rintro r h1 ⟨hE,h2⟩
 have hz:(if (!decide (z<0))=true then -(B.valD ds:Int) else B.valD ds) = -z:=by
  by_cases h0:z<0<;>simp[h0]<;>omega
 rw[hz] at h2
 obtain⟨s1,n1,rfl,c1,o1,_,_⟩:=h2.form
 have n1:=(hE).n;try simp only[new_n] at n1
 have hg:h1.ext.get (h.n+1)=some (.cells ZL 0 none):=by rw[hE.get _ (by simp)];simp (disch:=first|omega|(simp only[new_n,put_n];omega)|(repeat first|rw[new_n]|rw[put_n])) only[get_new_same]
 simp -dsimp (maxSteps:=1000000) (disch:=first|omega|(simp only[new_n,put_n];omega)|decide +kernel|(repeat first|rw[new_n]|rw[put_n])) only[wpS,wpT,Nat.reduceEqDiff,Nat.reduceLeDiff,Nat.reduceAdd,st94,ld94,hg,o1]
 exact⟨((((Ext.refl h).new _).new _).trans hE).put (by omega) _,h2.keep ((Keep.refl _).put hg _)⟩
set_option maxHeartbeats 4000000 in
theorem pplus_ok {h:IH} {v w:Value} {x y:Int} (hv:PLong h v x) (hw:PLong h w y) (sx:SmallI x) (sy:SmallI y) :
  WV Proofs.Tryz.prog (.func (.func 108) #[] #[]) [v,w] h fun r h'=>Ext h h'∧PLong h' r (x+y):=by
 obtain⟨s,rfl,a,ha,na,hx⟩:=hv
 obtain⟨t,rfl,b,hb,nb,hy⟩:=hw
 have la:a.length≤1000000:=small64' na (by rw[hx];exact sx)
 have lb:b.length≤1000000:=small64' nb (by rw[hy];exact sy)
 refine enter (nt:=34) (rs:=[.cell 4 94]) Proofs.Tryz.func108 rfl rfl rfl (by simp) ?_
 simp -dsimp (maxSteps:=1000000) (disch:=first|omega|(simp only[new_n,put_n];omega)|decide +kernel|(repeat first|rw[new_n]|rw[put_n])) only[wpS,Nat.reduceEqDiff,Nat.reduceAdd,zc94,fa94_0,ld4,be4]
 have ee : ∀o1 o2 o3,Ext h (((h.new o1).new o2).new o3):=fun o1 o2 o3=>(((Ext.refl h).new _).new _).new _
 refine bq_intro (fun hc=>?_) (fun hc=>?_)
 ·have hc:(x<0↔y<0):=by simpa using hc
  simp -dsimp (maxSteps:=1000000) (disch:=first|omega|(simp only[new_n,put_n];omega)|decide +kernel|(repeat first|rw[new_n]|rw[put_n])) only[wpS]
  refine drawn [(1,[7])] (by kernel_rfl) (by kernel_rfl) rfl ?_
  simp -dsimp (maxSteps:=1000000) (disch:=first|omega|(simp only[new_n,put_n];omega)|decide +kernel|(repeat first|rw[new_n]|rw[put_n])) only[wpS,Nat.reduceEqDiff,fa94_0,ld4,fa94_1,ld92]
  refine call (added_ok (ha.keep (ee _ _ _).keep) (hb.keep (ee _ _ _).keep) (by omega) (by omega)) ?_
  rintro r h1 ⟨hE,os,hD,hval⟩
  simp -dsimp (maxSteps:=1000000) (disch:=first|omega|(simp only[new_n,put_n];omega)|decide +kernel|(repeat first|rw[new_n]|rw[put_n])) only[wpS,Nat.reduceEqDiff]
  refine call (trimmed_ok hD _) ?_
  rintro r2 h2 ⟨hE2,hr⟩
  have hz:(if decide (x<0)=true then -(B.valD os:Int) else B.valD os)=x+y:=by
   by_cases h0:x<0<;>simp[h0]<;>omega
  rw[hz] at hr
  obtain⟨s1,n1,rfl,c1,o1,_,_⟩:=hr.form
  have m1:=(hE).n;try simp only[new_n] at m1
  have m2:=(hE2).n;try simp only[new_n,put_n] at m2
  have hg:h2.ext.get (h.n+1+1)=some (.cells ZL 0 none):=by rw[hE2.get _ (by omega),hE.get _ (by simp)];simp (disch:=first|omega|(simp only[new_n,put_n];omega)|(repeat first|rw[new_n]|rw[put_n])) only[get_new_same]
  have hr0:h1.row (2*h.n)=some [.bool (decide (x<0)),s]:=by
   rw[hE.row (by simp<;>omega)];simp -dsimp (maxSteps:=1000000) (disch:=first|omega|(simp only[new_n,put_n];omega)|decide +kernel|(repeat first|rw[new_n]|rw[put_n])) only[wpS]
  simp -dsimp (maxSteps:=1000000) (disch:=first|omega|(simp only[new_n,put_n];omega)|decide +kernel|(repeat first|rw[new_n]|rw[put_n])) only[wpS,wpT,Nat.reduceEqDiff,Nat.reduceLeDiff,Nat.reduceAdd,st94,hg,o1]
  refine⟨wpSteady_one rfl rfl rfl rfl (steady_load (av:=ptr (2*h.n) 0) (v:=.bool (decide (x<0))) rfl ?_ ?_),?_⟩
  ·simp -dsimp (maxSteps:=1000000) (disch:=first|omega|(simp only[new_n,put_n];omega)|decide +kernel|(repeat first|rw[new_n]|rw[put_n])) only[wpS,ld4]
  ·simp -dsimp (maxSteps:=1000000) (disch:=first|omega|(simp only[new_n,put_n];omega)|decide +kernel|(repeat first|rw[new_n]|rw[put_n])) only[wpS,ld4,hr0]
  ·simp -dsimp (maxSteps:=1000000) (disch:=first|omega|(simp only[new_n,put_n];omega)|decide +kernel|(repeat first|rw[new_n]|rw[put_n])) only[wpS,wpT,Nat.reduceEqDiff,Nat.reduceLeDiff,Nat.reduceAdd,ld94]
   exact⟨(((ee _ _ _).trans hE).trans hE2).put (by omega) _,hr.keep ((Keep.refl _).put hg _)⟩
 ·have hc : ¬(x<0↔y<0):=by simpa using hc
  simp -dsimp (maxSteps:=1000000) (disch:=first|omega|(simp only[new_n,put_n];omega)|decide +kernel|(repeat first|rw[new_n]|rw[put_n])) only[wpS,Nat.reduceEqDiff,fa94_1,ld92]
  refine call (compared_ok (ha.keep (ee _ _ _).keep) (hb.keep (ee _ _ _).keep) na nb) ?_
  rintro r h1 ⟨rfl,c,rfl,hc1,hc2,hc3,hc4⟩
  simp -dsimp (maxSteps:=1000000) (disch:=first|omega|(simp only[new_n,put_n];omega)|decide +kernel|(repeat first|rw[new_n]|rw[put_n])) only[wpS,Nat.reduceEqDiff]
  refine bq_cut (fun fr2 h4 => ∃(p q:Int) (sp sq:Value) (ps qs:List Nat),Ext h h4∧h.n+3≤h4.n∧h4.ext.get h.n=some (.cells [.bool (decide (p<0)),sp] 0 none)∧h4.ext.get (h.n+1)=some (.cells [.bool (decide (q<0)),sq] 0 none)∧h4.ext.get (h.n+1+1)=some (.cells ZL 0 none) ∧
   WrdU h4 sp ps∧WrdU h4 sq qs∧B.Norm ps∧B.Norm qs∧B.valD ps=p.natAbs∧B.valD qs=q.natAbs∧q.natAbs≤p.natAbs∧p+q=x+y ∧ ¬(p<0↔q<0)∧fget fr2 2=some (ptr (2*h.n) 0)∧fget fr2 3=some (ptr (2*(h.n+1)) 0)∧fget fr2 4=some (ptr (2*(h.n+1+1)) 0)) (fun hc5=>?_) (fun hc5=>?_) ?_
  ·simp only[decide_eq_true_eq] at hc5
   simp -dsimp (maxSteps:=1000000) (disch:=first|omega|(simp only[new_n,put_n];omega)|decide +kernel|(repeat first|rw[new_n]|rw[put_n])) only[wpS,wpT,Nat.reduceEqDiff,Nat.reduceLeDiff,Nat.reduceAdd,st94,ld94,List.drop_zero,tk_two,ha.1.cok,hb.1.cok]
   have g0:(((h.new (.cells [.bool (decide (x<0)),s] 0 none)).new (.cells [.bool (decide (y<0)),t] 0 none)).new (.cells [.bool false,.slice none 0 0] 0 none)).ext.get h.n=some (.cells [.bool (decide (x<0)),s] 0 none):=by simp (disch:=first|omega|(simp only[new_n,put_n];omega)|(repeat first|rw[new_n]|rw[put_n])) only[get_new_same,get_new_old]
   have g1:((((h.new (.cells [.bool (decide (x<0)),s] 0 none)).new (.cells [.bool (decide (y<0)),t] 0 none)).new (.cells [.bool false,.slice none 0 0] 0 none)).put h.n (.cells [.bool (decide (y<0)),t] 0 none)).ext.get (h.n+1)=some (.cells [.bool (decide (y<0)),t] 0 none):=by simp (disch:=first|omega|(simp only[new_n,put_n];omega)|(repeat first|rw[new_n]|rw[put_n])) only[get_new_same,get_new_old,get_put_old]
   have kp:=((ee _ _ _).keep.put g0 (.cells [.bool (decide (y<0)),t] 0 none)).put g1 (.cells [.bool (decide (x<0)),s] 0 none)
   refine⟨y,x,t,s,b,a,((ee _ _ _).put (Nat.le_refl _) _).put (by omega) _,by simp<;>omega,by simp (disch:=first|omega|(simp only[new_n,put_n];omega)|(repeat first|rw[new_n]|rw[put_n])) only[get_put_same,get_put_old],by simp (disch:=first|omega|(simp only[new_n,put_n];omega)|(repeat first|rw[new_n]|rw[put_n])) only[get_put_same],by simp (disch:=first|omega|(simp only[new_n,put_n];omega)|(repeat first|rw[new_n]|rw[put_n])) only[get_new_same,get_put_old],hb.keep kp,ha.keep kp,nb,na,hy,hx,by omega,by omega,by omega,by simp,by simp,by simp⟩
  ·simp only[decide_eq_false_iff_not] at hc5
   simp -dsimp (maxSteps:=1000000) (disch:=first|omega|(simp only[new_n,put_n];omega)|decide +kernel|(repeat first|rw[new_n]|rw[put_n])) only[wpS,wpT]
   exact⟨x,y,s,t,a,b,ee _ _ _,by simp<;>omega,by simp (disch:=first|omega|(simp only[new_n,put_n];omega)|(repeat first|rw[new_n]|rw[put_n])) only[get_new_same,get_new_old],by simp (disch:=first|omega|(simp only[new_n,put_n];omega)|(repeat first|rw[new_n]|rw[put_n])) only[get_new_same,get_new_old],by simp (disch:=first|omega|(simp only[new_n,put_n];omega)|(repeat first|rw[new_n]|rw[put_n])) only[get_new_same],ha.keep (ee _ _ _).keep,hb.keep (ee _ _ _).keep,na,nb,hx,hy,by omega,rfl,hc,by simp,by simp,by simp⟩
  rintro fr h4 ⟨p,q,sp,sq,ps,qs,hE4,hn4,g0,g1,g2,hp,hq,np,nq,vp,vq,hle,hsum,hsg,f2,f3,f4⟩
  have r0:=row_kn g0
  have r1:=row_kn g1
  rw[d_seq]
  refine drawn [(1,[7])] (by kernel_rfl) (by kernel_rfl) rfl ?_
  simp -dsimp (maxSteps:=1000000) (disch:=first|omega|(simp only[new_n,put_n];omega)|decide +kernel|(repeat first|rw[new_n]|rw[put_n])) only[wpS,Nat.reduceEqDiff,fa94_0,ld4,fa94_1,ld92,f2,f3,r0,r1]
  refine call (taken_ok hp hq nq (by omega)) ?_
  rintro r h5 ⟨hE5,os,rfl,hD,hval⟩
  simp -dsimp (maxSteps:=1000000) (disch:=first|omega|(simp only[new_n,put_n];omega)|decide +kernel|(repeat first|rw[new_n]|rw[put_n])) only[wpS,Nat.reduceEqDiff]
  refine call (trimmed_ok hD _) ?_
  rintro r2 h6 ⟨hE6,hr⟩
  have hz:(if decide (p<0)=true then -(B.valD os:Int) else B.valD os)=x+y:=by
   by_cases h0:p<0<;>simp[h0]<;>omega
  rw[hz] at hr
  obtain⟨s1,n1,rfl,c1,o1,_,_⟩:=hr.form
  have m1:=(hE5).n;try simp only[new_n,put_n] at m1
  have m2:=(hE6).n;try simp only[new_n,put_n] at m2
  have hg:h6.ext.get (h.n+1+1)=some (.cells ZL 0 none):=by rw[hE6.get _ (by omega),hE5.get _ (by omega)];exact g2
  have hr0:h5.row (2*h.n)=some [.bool (decide (p<0)),sp]:=row_kn ((hE5.get _ (by omega)).trans g0)
  simp -dsimp (maxSteps:=1000000) (disch:=first|omega|(simp only[new_n,put_n];omega)|decide +kernel|(repeat first|rw[new_n]|rw[put_n])) only[wpS,wpT,Nat.reduceEqDiff,Nat.reduceLeDiff,Nat.reduceAdd,st94,f4,hg,o1]
  refine⟨wpSteady_one rfl rfl rfl rfl (steady_load (av:=ptr (2*h.n) 0) (v:=.bool (decide (p<0))) ?_ ?_ ?_),?_⟩
  ·simp -dsimp (maxSteps:=1000000) (disch:=first|omega|(simp only[new_n,put_n];omega)|decide +kernel|(repeat first|rw[new_n]|rw[put_n])) only[wpS]
  ·simp -dsimp (maxSteps:=1000000) (disch:=first|omega|(simp only[new_n,put_n];omega)|decide +kernel|(repeat first|rw[new_n]|rw[put_n])) only[wpS,ld4,r0]
  ·simp -dsimp (maxSteps:=1000000) (disch:=first|omega|(simp only[new_n,put_n];omega)|decide +kernel|(repeat first|rw[new_n]|rw[put_n])) only[wpS,ld4,hr0]
  ·simp -dsimp (maxSteps:=1000000) (disch:=first|omega|(simp only[new_n,put_n];omega)|decide +kernel|(repeat first|rw[new_n]|rw[put_n])) only[wpS,wpT,Nat.reduceEqDiff,Nat.reduceLeDiff,Nat.reduceAdd,ld94,f4]
   exact⟨((hE4.trans hE5).trans hE6).put (by omega) _,hr.keep ((Keep.refl _).put hg _)⟩
set_option maxHeartbeats 2000000 in
theorem pminus_ok {h:IH} {v w:Value} {x y:Int} (hv:PLong h v x) (hw:PLong h w y) (sx:SmallI x) (sy:SmallI y) :
  WV Proofs.Tryz.prog (.func (.func 129) #[] #[]) [v,w] h fun r h'=>Ext h h'∧PLong h' r (x - y):=by
 obtain⟨s,n1,rfl,c1,o1,l1,z1⟩:=hv.form
 obtain⟨t,n2,rfl,c2,o2,l2,z2⟩:=hw.form
 refine enter (nt:=9) (rs:=[.cell 4 94]) Proofs.Tryz.func129 rfl rfl rfl (by simp) ?_
 simp -dsimp (maxSteps:=1000000) (disch:=first|omega|(simp only[new_n,put_n];omega)|decide +kernel|(repeat first|rw[new_n]|rw[put_n])) only[wpS,Nat.reduceEqDiff,Nat.reduceAdd,zc94]
 have ee : ∀o1 o2 o3,Ext h (((h.new o1).new o2).new o3):=fun o1 o2 o3=>(((Ext.refl h).new _).new _).new _
 refine drawn [(0,[3])] (by kernel_rfl) (by kernel_rfl) rfl ?_
 simp -dsimp (maxSteps:=1000000) (disch:=first|omega|(simp only[new_n,put_n];omega)|decide +kernel|(repeat first|rw[new_n]|rw[put_n])) only[wpS,wpT,Nat.reduceEqDiff,Nat.reduceLeDiff,Nat.reduceAdd,ld94]
 refine call (pturned_ok (hw.keep (ee _ _ _).keep)) ?_
 rintro r h1 ⟨hE,hT⟩
 simp -dsimp (maxSteps:=1000000) (disch:=first|omega|(simp only[new_n,put_n];omega)|decide +kernel|(repeat first|rw[new_n]|rw[put_n])) only[wpS,Nat.reduceEqDiff]
 refine call (pplus_ok (hv.keep ((ee _ _ _).trans hE).keep) hT sx (by rw[SmallI,Int.natAbs_neg];exact sy)) ?_
 rintro r2 h2 ⟨hE2,hr⟩
 obtain⟨s1,n3,rfl,c3,o3,l3,z3⟩:=hr.form
 have m1:=(hE).n;try simp only[new_n] at m1
 have m2:=(hE2).n;try simp only[new_n,put_n] at m2
 have hg:h2.ext.get (h.n+1+1)=some (.cells ZL 0 none):=by rw[hE2.get _ (by omega),hE.get _ (by simp)];simp (disch:=first|omega|(simp only[new_n,put_n];omega)|(repeat first|rw[new_n]|rw[put_n])) only[get_new_same]
 have hr0:h1.row (2*h.n)=some [.bool (decide (x<0)),s]:=by
  rw[hE.row (by simp<;>omega)];simp -dsimp (maxSteps:=1000000) (disch:=first|omega|(simp only[new_n,put_n];omega)|decide +kernel|(repeat first|rw[new_n]|rw[put_n])) only[wpS]
 simp -dsimp (maxSteps:=1000000) (disch:=first|omega|(simp only[new_n,put_n];omega)|decide +kernel|(repeat first|rw[new_n]|rw[put_n])) only[wpS,wpT,Nat.reduceEqDiff,Nat.reduceLeDiff,Nat.reduceAdd,st94,hg,o3]
 refine⟨wpSteady_one rfl rfl rfl rfl (steady_load (av:=ptr (2*h.n) 0) (v:=.agg #[.bool (decide (x<0)),s]) rfl ?_ ?_),?_⟩
 ·simp -dsimp (maxSteps:=1000000) (disch:=first|omega|(simp only[new_n,put_n];omega)|decide +kernel|(repeat first|rw[new_n]|rw[put_n])) only[wpS,wpT,Nat.reduceLeDiff,Nat.reduceAdd,ld94]
  rfl
 ·simp -dsimp (maxSteps:=1000000) (disch:=first|omega|(simp only[new_n,put_n];omega)|decide +kernel|(repeat first|rw[new_n]|rw[put_n])) only[wpS,wpT,Nat.reduceLeDiff,Nat.reduceAdd,ld94,hr0]
  rfl
 ·simp -dsimp (maxSteps:=1000000) (disch:=first|omega|(simp only[new_n,put_n];omega)|decide +kernel|(repeat first|rw[new_n]|rw[put_n])) only[wpS,wpT,Nat.reduceEqDiff,Nat.reduceLeDiff,Nat.reduceAdd,ld94]
  refine⟨(((ee _ _ _).trans hE).trans hE2).put (by omega) _,?_⟩
  have:x + -y=x - y:=by omega
  rw[this] at hr ⊢
  exact hr.keep ((Keep.refl _).put hg _)
set_option maxHeartbeats 2000000 in
theorem ptimes_ok {h:IH} {v w:Value} {x y:Int} (hv:PLong h v x) (hw:PLong h w y) (sx:HalfI x) (sy:HalfI y) :
  WV Proofs.Tryz.prog (.func (.func 94) #[] #[]) [v,w] h fun r h'=>Ext h h'∧PLong h' r (x*y):=by
 obtain⟨s,rfl,ds,hD,hN,hx⟩:=hv
 obtain⟨t,rfl,es,hE,hM,hy⟩:=hw
 have l1:ds.length≤500000:=half64' hN (by rw[hx];exact sx)
 have l2:es.length≤500000:=half64' hM (by rw[hy];exact sy)
 refine enter (nt:=16) (rs:=[.cell 4 94]) Proofs.Tryz.func94 rfl rfl rfl (by simp) ?_
 simp -dsimp (maxSteps:=1000000) (disch:=first|omega|(simp only[new_n,put_n];omega)|decide +kernel|(repeat first|rw[new_n]|rw[put_n])) only[wpS,Nat.reduceEqDiff,Nat.reduceAdd,zc94]
 have kk : ∀o1 o2 o3,Ext h (((h.new o1).new o2).new o3):=fun o1 o2 o3=>(((Ext.refl h).new _).new _).new _
 refine drawn [(1,[10]),(3,[10])] (by kernel_rfl) (by kernel_rfl) rfl ?_
 simp -dsimp (maxSteps:=1000000) (disch:=first|omega|(simp only[new_n,put_n];omega)|decide +kernel|(repeat first|rw[new_n]|rw[put_n])) only[wpS,Nat.reduceEqDiff,fa94_0,ld4,bn4,fa94_1,ld92,bne_bool]
 refine call (multiplied_ok (hD.keep (kk _ _ _).keep) (hE.keep (kk _ _ _).keep) (by omega)) ?_
 rintro r h1 ⟨hE1,os,hO,hOv⟩
 simp -dsimp (maxSteps:=1000000) (disch:=first|omega|(simp only[new_n,put_n];omega)|decide +kernel|(repeat first|rw[new_n]|rw[put_n])) only[wpS,Nat.reduceEqDiff]
 refine call (trimmed_ok hO _) ?_
 rintro r2 h2 ⟨hE2,hr⟩
 rw[hOv,hx,hy,sign_mul] at hr
 obtain⟨s3,n3,rfl,c3,o3,_,_⟩:=hr.form
 have m1:=(hE1).n;try simp only[new_n] at m1
 have m2:=(hE2).n;try simp only[new_n,put_n] at m2
 have hg:h2.ext.get (h.n+1+1)=some (.cells ZL 0 none):=by
  rw[hE2.get _ (by omega),hE1.get _ (by simp)];exact get_new_same _ _ rfl
 have r0:h1.row (2*h.n)=some [.bool (decide (x<0)),s]:=by rw[hE1.row (by simp<;>omega)];simp -dsimp (maxSteps:=1000000) (disch:=first|omega|(simp only[new_n,put_n];omega)|decide +kernel|(repeat first|rw[new_n]|rw[put_n])) only[wpS]
 have r1:h1.row (2*(h.n+1))=some [.bool (decide (y<0)),t]:=by rw[hE1.row (by simp<;>omega)];simp -dsimp (maxSteps:=1000000) (disch:=first|omega|(simp only[new_n,put_n];omega)|decide +kernel|(repeat first|rw[new_n]|rw[put_n])) only[wpS]
 simp -dsimp (maxSteps:=1000000) (disch:=first|omega|(simp only[new_n,put_n];omega)|decide +kernel|(repeat first|rw[new_n]|rw[put_n])) only[wpS,wpT,Nat.reduceEqDiff,Nat.reduceLeDiff,Nat.reduceAdd,st94,hg,o3]
 refine⟨wpSteady_cons (wpSteady_one rfl rfl rfl rfl (steady_load (av:=ptr (2*h.n) 0) (v:=.bool (decide (x<0))) rfl ?_ ?_)) (wpSteady_one rfl rfl rfl rfl (steady_load (av:=ptr (2*(h.n+1)) 0) (v:=.bool (decide (y<0))) rfl ?_ ?_)),?_⟩
 ·simp -dsimp (maxSteps:=1000000) (disch:=first|omega|(simp only[new_n,put_n];omega)|decide +kernel|(repeat first|rw[new_n]|rw[put_n])) only[wpS,ld4]
 ·simp -dsimp (maxSteps:=1000000) (disch:=first|omega|(simp only[new_n,put_n];omega)|decide +kernel|(repeat first|rw[new_n]|rw[put_n])) only[wpS,ld4,r0]
 ·simp -dsimp (maxSteps:=1000000) (disch:=first|omega|(simp only[new_n,put_n];omega)|decide +kernel|(repeat first|rw[new_n]|rw[put_n])) only[wpS,ld4]
 ·simp -dsimp (maxSteps:=1000000) (disch:=first|omega|(simp only[new_n,put_n];omega)|decide +kernel|(repeat first|rw[new_n]|rw[put_n])) only[wpS,ld4,r1]
 simp -dsimp (maxSteps:=1000000) (disch:=first|omega|(simp only[new_n,put_n];omega)|decide +kernel|(repeat first|rw[new_n]|rw[put_n])) only[wpS,wpT,Nat.reduceEqDiff,Nat.reduceLeDiff,Nat.reduceAdd,ld94]
 exact⟨(((kk _ _ _).trans hE1).trans hE2).put (by omega) _,hr.keep ((Keep.refl _).put hg _)⟩
theorem pside_ok {h:IH} {v:Value} {z:Int} (hv:PLong h v z):WV Proofs.Tryz.prog (.func (.func 65) #[] #[]) [v] h fun r h'=>Ext h h'∧r=KI (if z<0 then -1 else if z=0 then 0 else 1):=by
 obtain⟨s,n1,rfl,c1,o1,l1,z1⟩:=hv.form
 refine enter (nt:=11) (rs:=[.tmp 2]) Proofs.Tryz.func65 rfl rfl rfl (by simp) ?_
 simp -dsimp (disch:=omega) only[wpS,Nat.reduceEqDiff,fa94_0,ld4]
 refine bq_intro ?_ ?_<;>intro hc<;>simp only[decide_eq_true_eq,decide_eq_false_iff_not] at hc
 ·simp -dsimp (disch:=omega) only[wpS,wpT,Nat.reduceEqDiff]
  refine⟨(Ext.refl h).new _,?_⟩
  rw[if_pos hc]
 ·simp -dsimp (disch:=omega) only[wpS,wpT,Nat.reduceEqDiff,fa94_1,ld92,l1 sl92]
  refine bq_intro ?_ ?_<;>intro hc2<;>simp only[beq_iff_eq,beq_eq_false_iff_ne,ne_eq] at hc2
  ·simp -dsimp (disch:=omega) only[wpS,wpT,Nat.reduceEqDiff]
   refine⟨(Ext.refl h).new _,?_⟩
   rw[if_neg (by omega),if_pos (by omega)]
  ·simp -dsimp (disch:=omega) only[wpS,wpT]
   refine⟨(Ext.refl h).new _,?_⟩
   rw[if_neg (by omega),if_neg (by omega)]
theorem pcmp_ok {h:IH} {v w:Value} {x y:Int} (hv:PLong h v x) (hw:PLong h w y) (sx:SmallI x) (sy:SmallI y) :
  WV Proofs.Tryz.prog (.func (.func 95) #[] #[]) [v,w] h fun r h'=>Ext h h'∧r=KI (if x<y then -1 else if x=y then 0 else 1):=by
 obtain⟨s,n1,rfl,c1,o1,l1,z1⟩:=hv.form
 obtain⟨t,n2,rfl,c2,o2,l2,z2⟩:=hw.form
 refine enter (nt:=9) (rs:=[.tmp 4]) Proofs.Tryz.func95 rfl rfl rfl (by simp) ?_
 simp -dsimp (maxSteps:=1000000) (disch:=first|omega|(simp only[new_n,put_n];omega)|decide +kernel|(repeat first|rw[new_n]|rw[put_n])) only[wpS,wpT,Nat.reduceEqDiff,Nat.reduceLeDiff,Nat.reduceAdd,ld94]
 have e2 : ∀o1 o2,Ext h ((h.new o1).new o2):=fun o1 o2=>((Ext.refl h).new _).new _
 refine call (pminus_ok (hv.keep (e2 _ _).keep) (hw.keep (e2 _ _).keep) sx sy) ?_
 rintro r h1 ⟨hE,hr⟩
 simp -dsimp (maxSteps:=1000000) (disch:=first|omega|(simp only[new_n,put_n];omega)|decide +kernel|(repeat first|rw[new_n]|rw[put_n])) only[wpS,Nat.reduceEqDiff]
 refine call (pside_ok hr) ?_
 rintro _ h2 ⟨hE2,rfl⟩
 simp -dsimp (maxSteps:=1000000) (disch:=first|omega|(simp only[new_n,put_n];omega)|decide +kernel|(repeat first|rw[new_n]|rw[put_n])) only[wpS,Nat.reduceEqDiff]
 refine⟨((e2 _ _).trans hE).trans hE2,?_⟩
 congr 1
 split<;>split<;>(try split)<;>(try split)<;>omega
end Go.Id

/-! Contracts: the reference's long integers, ninth part: read as integers. -/
namespace Go.Id
open Go
end Go.Id

/-! Contracts: wide integers of the program: from and to integers. -/
namespace Go.Id
open Go
theorem wdC_map (n:Nat):wdC n=((List.range 8).map fun i=>(wrd n i:Int)).map (Value.int .u64):=by simp[wdC]
theorem wrd_inj {n m:Nat} (hn:n<W8) (hm:m<W8) (h : ∀i,i<8→wrd n i=wrd m i):n=m:=by
 have key : ∀i,i≤8→n % 18446744073709551616 ^ i=m % 18446744073709551616 ^ i:=by
  intro i
  induction i with
  | zero=>intro _;rw[Nat.pow_zero,Nat.mod_one,Nat.mod_one]
  | succ i ih=>intro hi;rw[mod_wrd,mod_wrd,ih (by omega),h i (by omega)]
 have:=key 8 (Nat.le_refl _)
 rw[←W8_eq] at this
 rwa [Nat.mod_eq_of_lt hn,Nat.mod_eq_of_lt hm] at this
theorem wd_dec {n m:Nat} (hn:n<W8) (hm:m<W8):decide (((List.range 8).map fun i=>(wrd n i:Int))=((List.range 8).map fun i=>(wrd m i:Int)))=decide (n=m):=by
 rw[Bool.eq_iff_iff];simp only[decide_eq_true_eq]
 constructor
 ·intro h
  refine wrd_inj hn hm fun i hi=>?_
  have:=congrArg (fun l=>l[i]?) h
  simp[hi] at this
  omega
 ·rintro rfl;rfl
theorem wd_eql {n m:Nat} (hn:n<W8) (hm:m<W8) (ox oy:Operand):binop Proofs.Tryz.prog .eql 45 ox oy (.agg (wdC n).toArray) (.agg (wdC m).toArray)=some (.bool (decide (n=m))):=by
 rw[wdC_map,wdC_map,binop_eql_arr u45 u43 sz43 eg45 _ _ _ _ (by simp) (by simp),wd_dec hn hm]
theorem wrd_int {n:Int} (hn:In64 n) (i:Nat) (hi:i<8):(wrd (wideN n) i:Int)=if i=0 then n % 18446744073709551616 else if n<0 then 18446744073709551615 else 0:=by
 by_cases h0:0≤n
 ·rw[wideN,if_pos h0]
  by_cases hz:i=0
  ·subst hz
   rw[if_pos rfl,wrd,Nat.pow_zero,Nat.div_one];omega
  ·rw[if_neg hz,if_neg (by omega),wrd_high (i:=1) (by omega) (by omega)];rfl
 ·rw[wideN,if_neg h0]
  obtain⟨u,hu⟩ : ∃u:Nat,u=n.natAbs:=⟨_,rfl⟩
  rw[←hu]
  have e:W8 - u=(18446744073709551616 - u)+18446744073709551616*(18446744073709551616 ^ 7 - 1):=by
   rw[W8_eq];omega
  by_cases hz:i=0
  ·subst hz
   rw[if_pos rfl,wrd,Nat.pow_zero,Nat.div_one,e,Nat.add_mul_mod_self_left];omega
  ·rw[if_neg hz,if_pos (by omega)]
   obtain⟨k,rfl⟩ : ∃k,i=k+1:=⟨i - 1,by omega⟩
   have e3:((18446744073709551616 - u)+18446744073709551616*(18446744073709551616 ^ 7 - 1)) / 18446744073709551616=18446744073709551616 ^ 7 - 1:=by
    rw[Nat.add_mul_div_left _ _ (by omega),Nat.div_eq_of_lt (by omega),Nat.zero_add]
   rw[wrd,Nat.pow_succ',←Nat.div_div_eq_div_mul,e,e3]
   have hk:k<7:=by omega
   have hk2:k=0∨k=1∨k=2∨k=3∨k=4∨k=5∨k=6:=by omega
   rcases hk2 with rfl|rfl|rfl|rfl|rfl|rfl|rfl<;>rfl
def wfill (w0:Int) (i:Nat):List Value:=(List.range 8).map fun j=>.int .u64 (if j=0 then w0 else if j<i then 18446744073709551615 else 0)
theorem wfill_len (w0:Int) (i:Nat):(wfill w0 i).length=8:=by simp[wfill]
theorem wfill_one (w0:Int):wfill w0 1 = [.int .u64 w0,.int .u64 0,.int .u64 0,.int .u64 0,.int .u64 0,.int .u64 0,.int .u64 0,.int .u64 0]:=by
 simp[wfill,List.range_succ]
theorem wfill_set (w0:Int) {i:Nat} (h0:0<i) (hi:i<8):(wfill w0 i).set i (.int .u64 18446744073709551615)=wfill w0 (i+1):=by
 apply List.ext_getElem?
 intro j
 rw[List.getElem?_set,wfill_len]
 by_cases hij:i=j
 ·subst hij
  rw[if_pos rfl,if_pos hi]
  simp[wfill,hi,show ¬i=0 by omega]
 ·rw[if_neg hij]
  by_cases hj:j<8
  ·simp only[wfill,List.getElem?_map,List.getElem?_range hj,Option.map_some]
   by_cases hz:j=0
   ·simp[hz]
   ·by_cases hlt:j<i
    ·simp[hz,hlt,show j<i+1 by omega]
    ·simp[hz,hlt,show ¬j<i+1 by omega]
  ·rw[List.getElem?_eq_none (by rw[wfill_len];omega),List.getElem?_eq_none (by rw[wfill_len];omega)]
theorem wfill_neg {n:Int} (hn:In64 n) (h0:n<0):wfill (n % 18446744073709551616) 8=wdC (wideN n):=by
 apply List.ext_getElem?
 intro j
 by_cases hj:j<8
 ·rw[wdC_get _ _ hj]
  simp only[wfill,List.getElem?_map,List.getElem?_range hj,Option.map_some,K64,wrd_int hn j hj]
  simp[h0,hj]
 ·rw[List.getElem?_eq_none (by rw[wfill_len];omega),List.getElem?_eq_none (by rw[wdC_len];omega)]
theorem wfill_pos {n:Int} (hn:In64 n) (h0 : ¬n<0):wfill (n % 18446744073709551616) 1=wdC (wideN n):=by
 apply List.ext_getElem?
 intro j
 by_cases hj:j<8
 ·rw[wdC_get _ _ hj]
  simp only[wfill,List.getElem?_map,List.getElem?_range hj,Option.map_some,K64,wrd_int hn j hj]
  by_cases hz:j=0
  ·simp[hz]
  ·simp[h0,hz]
 ·rw[List.getElem?_eq_none (by rw[wfill_len];omega),List.getElem?_eq_none (by rw[wdC_len];omega)]
set_option maxRecDepth 100000 in
theorem wideOf_ok {h:IH} (n:Int) (hn:In64 n):WV Proofs.Tryz.prog (.func (.func 102) #[] #[]) [KI n] h fun r h'=>Ext h h'∧r=wideV n:=by
 have hw:IntKind.u64.wrap n=n % 18446744073709551616:=wrapU n
 have hE : ∀a b c,Ext h (((h.new a).new b).put (h.n+1) c):=fun a b c=>(((Ext.refl h).new _).new _).put (by omega) _
 have fin : ∀h1:IH,Ext h h1→h.n+1<h1.n→h1.ext.get (h.n+1)=some (.cells (wdC (wideN n)) 0 none)→h1.ext.get h.n=some (.cells [ZW,ZW,ZW,ZW,ZW,ZW,ZW,ZW] 0 none)→True:=fun _ _ _ _ _=>trivial
 refine enter (nt:=17) (rs:=[.cell 2 45]) Proofs.Tryz.func102 rfl rfl rfl (by simp) ?_
 simp -dsimp (maxSteps:=1000000) (disch:=first|omega|(simp only[new_n,put_n];omega)|decide +kernel|(repeat first|rw[new_n]|rw[put_n])) only[wpR]
 rw[d_seq]
 simp -dsimp (maxSteps:=1000000) (disch:=first|omega|(simp only[new_n,put_n];omega)|decide +kernel|(repeat first|rw[new_n]|rw[put_n])) only[wpR,zc45]
 rw[d_seq]
 simp -dsimp (maxSteps:=1000000) (disch:=first|omega|(simp only[new_n,put_n];omega)|decide +kernel|(repeat first|rw[new_n]|rw[put_n])) only[wpR,wpT,Nat.reduceEqDiff,Nat.reduceLeDiff,Nat.reduceAdd,zc45,cv3_43,bv45,pl45_0,st45,hw]
 rw[d_seq]
 refine cut (fun fr2 h2=>Ext h h2∧fget fr2 2=some (ptr (2*h.n) 0)∧fget fr2 3=some (ptr (2*(h.n+1)) 0)∧h.n+1<h2.n∧h2.ext.get (h.n+1)=some (.cells (wdC (wideN n)) 0 none)∧h2.ext.get h.n=some (.cells [ZW,ZW,ZW,ZW,ZW,ZW,ZW,ZW] 0 none)) ?_ ?_
 ·by_cases h0:n<0
  ·simp -dsimp (maxSteps:=1000000) (disch:=first|omega|(simp only[new_n,put_n];omega)|decide +kernel|(repeat first|rw[new_n]|rw[put_n])) only[wpS,Nat.reduceEqDiff,dec_lt_t h0]
   refine loop (fun m fr h2 => ∃i:Nat,i+m=8∧0<i∧fget fr 2=some (ptr (2*h.n) 0)∧fget fr 3=some (ptr (2*(h.n+1)) 0)∧fget fr 4=some (KN i)∧Ext h h2∧h.n+1<h2.n∧h2.ext.get (h.n+1)=some (.cells (wfill (n % 18446744073709551616) i) 0 none)∧h2.ext.get h.n=some (.cells [ZW,ZW,ZW,ZW,ZW,ZW,ZW,ZW] 0 none)) 7 ⟨1,by simp,by simp,by simp,by simp,by simp,hE _ _ _,by simp,?_,?_⟩ ?_
   ·rw[wfill_one];exact get_put_same _ _ rfl
   ·simp -dsimp (maxSteps:=1000000) (disch:=first|omega|(simp only[new_n,put_n];omega)|decide +kernel|(repeat first|rw[new_n]|rw[put_n])) only[wpS]
   ·rintro m fr h2 ⟨i,him,hi0,f2,f3,f4,hE2,hlt,hg1,hg0⟩
    simp -dsimp (maxSteps:=1000000) (disch:=first|omega|(simp only[new_n,put_n];omega)|decide +kernel|(repeat first|rw[new_n]|rw[put_n])) only[wpS,Nat.reduceEqDiff,f4]
    refine bq_intro ?_ ?_<;>intro hc<;>simp only[decide_eq_true_eq,decide_eq_false_iff_not] at hc
    ·have hi:i<8:=by omega
     have hsp:IH.splice (wfill (n % 18446744073709551616) i) i [.int .u64 18446744073709551615]=wfill (n % 18446744073709551616) (i+1):=by
      rw[splice_set (by rw[wfill_len];exact hi),wfill_set _ hi0 hi]
     simp -dsimp (maxSteps:=1000000) (disch:=first|omega|(simp only[new_n,put_n];omega)|decide +kernel|(repeat first|rw[new_n]|rw[put_n])) only[wpS,wpT,Nat.reduceEqDiff,Nat.reduceLeDiff,ar45,st43,f3,f4,ar45,hg1,wfill_len,hsp]
     refine⟨m - 1,by omega,i+1,by omega,by omega,by simp[f2],by simp[f3],by simp,hE2.put (by omega) _,by simpa using hlt,get_put_same _ _ rfl,?_⟩
     rw[get_put_old _ _ (by omega)];exact hg0
    ·obtain rfl:i=8:=by omega
     simp -dsimp (maxSteps:=1000000) (disch:=first|omega|(simp only[new_n,put_n];omega)|decide +kernel|(repeat first|rw[new_n]|rw[put_n])) only[wpS,wpT]
     exact⟨hE2,by simp[f2],by simp[f3],hlt,by rw[hg1,wfill_neg hn h0],hg0⟩
  ·simp -dsimp (maxSteps:=1000000) (disch:=first|omega|(simp only[new_n,put_n];omega)|decide +kernel|(repeat first|rw[new_n]|rw[put_n])) only[wpS,Nat.reduceEqDiff,dec_lt_f h0]
   refine⟨hE _ _ _,by simp,by simp,by simp,?_,?_⟩
   ·rw[←wfill_pos hn h0,wfill_one];exact get_put_same _ _ rfl
   ·simp -dsimp (maxSteps:=1000000) (disch:=first|omega|(simp only[new_n,put_n];omega)|decide +kernel|(repeat first|rw[new_n]|rw[put_n])) only[wpS]
 ·rintro fr2 h2 ⟨hE2,f2,f3,hlt,hg1,hg0⟩
  have hrow:h2.row (2*(h.n+1))=some (wdC (wideN n)):=by rw[row_even];exact cells_of hg1
  have hspl:IH.splice [ZW,ZW,ZW,ZW,ZW,ZW,ZW,ZW] 0 (wdC (wideN n))=wdC (wideN n):=splice_all (by rw[wdC_len];rfl)
  simp -dsimp (maxSteps:=1000000) (disch:=first|omega|(simp only[new_n,put_n];omega)|decide +kernel|(repeat first|rw[new_n]|rw[put_n])) only[wpS,wpT,Nat.reduceEqDiff,Nat.reduceLeDiff,Nat.reduceAdd,st45,ld45,f2,f3,hrow,hg0,wdC_len,wd_take,wdC_all,hspl]
  exact⟨hE2.put (by omega) _,rfl⟩
end Go.Id

/-! Contracts: the program's magnitudes and numbers, read and told. -/
namespace Go.Id
open Go
def wds (n:Nat):List Nat:=(List.range 8).map (wrd n)
theorem wds_len (n:Nat):(wds n).length=8:=by simp[wds]
theorem wds_dig (n:Nat):B.Digs (wds n):=fun d hd=>by
 simp only[wds,List.mem_map] at hd
 obtain⟨i,_,rfl⟩:=hd
 exact wrd_lt _ _
theorem wdC_wds (n:Nat):wdC n=(wds n).map K64:=by simp[wdC,wds]
theorem wds_get (n:Nat) {i:Nat} (hi:i<8):(wds n).getD i 0=wrd n i:=by
 rw[List.getD_eq_getElem?_getD];simp[wds,hi]
theorem wds_valT (n:Nat) : ∀i,i≤8→B.valT (wds n) i=n % 18446744073709551616 ^ i
 | 0,_=>by simp[B.valT,Nat.mod_one]
 | i+1,h=>by
  rw[B.valT,wds_valT n i (by omega),wds_get n (by omega),wrd,Nat.pow_succ,Nat.mod_mul,Nat.mul_comm]
theorem W8_pw:W8=18446744073709551616 ^ 8:=by unfold W8;rfl
theorem H8_two:H8+H8=W8:=by unfold W8 H8;rfl
theorem H8_pos:0<H8:=by unfold H8;decide
theorem wds_val {n:Nat} (h:n<W8):B.valD (wds n)=n:=by
 rw[B.valD,wds_len,wds_valT n 8 (Nat.le_refl _),←W8_pw,Nat.mod_eq_of_lt h]
theorem wds_of {ds:List Nat} (hl:ds.length=8) (hd:B.Digs ds):wds (B.valD ds)=ds:=by
 apply List.ext_getElem (by rw[wds_len,hl])
 intro i h1 h2
 rw[wds_len] at h1
 have e1:=wds_get (B.valD ds) h1
 have e2:=B.digit_eq hd i
 rw[wrd,←e2] at e1
 rw[List.getD_eq_getElem?_getD,List.getD_eq_getElem?_getD,List.getElem?_eq_getElem (by rw[wds_len];exact h1),List.getElem?_eq_getElem h2] at e1
 simpa using e1
theorem val_lt8 {ds:List Nat} (hl:ds.length=8) (hd:B.Digs ds):B.valD ds<W8:=by
 have:=B.valD_lt hd
 rwa [hl,←W8_pw] at this
theorem cells8 (n:Nat):(wdV n).cells.toList=wdC n:=rfl
set_option maxHeartbeats 2000000 in
theorem sizeMinus_ok {h:IH} (a b:Nat) (ha:a<W8) (hb:b<W8):WV Proofs.Tryz.prog (.func (.func 171) #[] #[]) [wdV a,wdV b] h fun r h'=>Ext h h' ∧ ∃m bor,r=.tuple #[wdV m,K64 bor]∧m<W8∧bor≤1∧a+bor*W8=b+m:=by
 refine enter (nt:=27) (rs:=[.cell 4 206,.tmp 5]) Proofs.Tryz.func171 rfl rfl rfl (by simp) ?_
 simp -dsimp (maxSteps:=1000000) (disch:=first|omega|(simp only[new_n,put_n];omega)|decide +kernel|(repeat first|rw[new_n]|rw[put_n])) only[wpS,Nat.reduceEqDiff,Nat.reduceAdd,zc206,cells8]
 rw[wdC_wds a,wdC_wds b]
 have lA:=wds_len a
 have lB:=wds_len b
 refine loop (fun m fr h1 => ∃(i bor:Nat) (os:List Nat),i+m=8∧Ext h h1∧h.n+3≤h1.n∧h1.ext.get h.n=some (.cells (os.map K64) 0 none)∧h1.ext.get (h.n+1)=some (.cells ((wds b).map K64) 0 none)∧(∃c,h1.ext.get (h.n+1+1)=some (.cells c 0 none)∧c.length=8)∧bor≤1∧os.length=8∧B.Digs os∧(∀j,i≤j→os.getD j 0=(wds a).getD j 0) ∧
   B.valT (wds a) i+bor*18446744073709551616 ^ i=B.valT (wds b) i+B.valT os i∧fget fr 2=some (ptr (2*h.n) 0)∧fget fr 3=some (ptr (2*(h.n+1)) 0)∧fget fr 4=some (ptr (2*(h.n+1+1)) 0)∧fget fr 6=some (K64 bor)∧fget fr 8=some (KN i)) 8
  ⟨0,0,wds a,rfl,(((Ext.refl h).new _).new _).new _,by simp<;>omega,by simp (disch:=first|omega|(simp only[new_n,put_n];omega)|(repeat first|rw[new_n]|rw[put_n])) only[get_new_same,get_new_old],by simp (disch:=first|omega|(simp only[new_n,put_n];omega)|(repeat first|rw[new_n]|rw[put_n])) only[get_new_same,get_new_old],⟨[ZW,ZW,ZW,ZW,ZW,ZW,ZW,ZW],by simp (disch:=first|omega|(simp only[new_n,put_n];omega)|(repeat first|rw[new_n]|rw[put_n])) only[get_new_same],rfl⟩,by omega,lA,wds_dig a,fun _ _=>rfl,by simp[B.valT],by simp,by simp,by simp,by simp,by simp⟩ ?_
 rintro m fr h1 ⟨i,bor,os,him,hE,hn,hg,hg1,hg2,hbor,hol,hod,hoa,hv,f2,f3,f4,f6,f8⟩
 simp -dsimp (maxSteps:=1000000) (disch:=first|omega|(simp only[new_n,put_n];omega)|decide +kernel|(repeat first|rw[new_n]|rw[put_n])) only[wpS,f8]
 refine bq_intro ?_ ?_<;>intro hc<;>simp only[decide_eq_true_eq,decide_eq_false_iff_not] at hc
 ·have hi:i<8:=by omega
  have r0:=row_kn hg
  have r1:=row_kn hg1
  have go:=get_some (show i<os.length by omega)
  have gb:=get_some (show i<(wds b).length by omega)
  have hx:=hoa i (Nat.le_refl _)
  have dx:=B.getD_lt hod i
  have dy:=B.getD_lt (wds_dig b) i
  obtain⟨x,hx1⟩ : ∃x,x=os.getD i 0:=⟨_,rfl⟩
  obtain⟨y,hy1⟩ : ∃x,x=(wds b).getD i 0:=⟨_,rfl⟩
  rw[←hx1] at go dx hx
  rw[←hy1] at gb dy
  simp -dsimp (maxSteps:=1000000) (disch:=first|omega|(simp only[new_n,put_n];omega)|decide +kernel|(repeat first|rw[new_n]|rw[put_n])) only[wpS,wpT,Nat.reduceEqDiff,ar206,ld43,f2,f3,f6,f8,r0,r1,map_get,go,gb]
  refine call (sub64_ok x y bor hbor) ?_
  rintro _ _ ⟨rfl,rfl⟩
  generalize hdd:(x+18446744073709551616 - y - bor) % 18446744073709551616=d
  obtain⟨b2,hb2,hb1,hrel⟩ : ∃b2:Nat,(bif Nat.blt x (y+bor) then 1 else 0)=b2∧b2≤1∧x+b2*18446744073709551616=y+bor+d:=by
   by_cases hlt:x<y+bor
   ·have e:Nat.blt x (y+bor)=true:=by simp only[Nat.blt,Nat.ble_eq];exact hlt
    refine⟨1,by rw[e];rfl,by omega,by omega⟩
   ·have e:Nat.blt x (y+bor)=false:=by rw[Bool.eq_false_iff];intro h;simp[Nat.blt] at h;omega
    refine⟨0,by rw[e];rfl,by omega,by omega⟩
  rw[hb2]
  have hd2:d<18446744073709551616:=by omega
  have spl:=spl_k64 d (show i<os.length by omega)
  rename_i h3
  simp -dsimp (maxSteps:=1000000) (disch:=first|omega|(simp only[new_n,put_n];omega)|decide +kernel|(repeat first|rw[new_n]|rw[put_n])) only[wpS,wpT,Nat.reduceEqDiff,Nat.reduceLeDiff,ar206,st43,f2,f8,hg,spl,List.length_map,hol]
  obtain⟨c,hgc,hcl⟩:=hg2
  refine⟨m - 1,by omega,i+1,b2,os.set i d,by omega,hE.put (Nat.le_refl _) _,hn,get_put_same _ _ rfl,by simp (disch:=first|omega|(simp only[new_n,put_n];omega)|(repeat first|rw[new_n]|rw[put_n])) only[get_put_old];exact hg1,⟨c,by simp (disch:=first|omega|(simp only[new_n,put_n];omega)|(repeat first|rw[new_n]|rw[put_n])) only[get_put_old];exact hgc,hcl⟩,hb1,by rw[List.length_set,hol],hod.set _ hd2,?_,?_,by simp[f2],by simp[f3],by simp[f4],by simp,by simp⟩
  ·intro j hj
   rw[B.getD_set (by omega),if_neg (by omega)]
   exact hoa j (by omega)
  ·rw[valT_set_next (by omega),B.valT,B.valT,←hx,←hy1,Nat.pow_succ]
   have e3:x*18446744073709551616 ^ i+b2*(18446744073709551616 ^ i*18446744073709551616)=(y+bor+d)*18446744073709551616 ^ i:=by rw[←hrel];grind
   have e4:(y+bor+d)*18446744073709551616 ^ i=y*18446744073709551616 ^ i+bor*18446744073709551616 ^ i+d*18446744073709551616 ^ i:=by grind
   omega
 ·obtain rfl:i=8:=by omega
  have r0:=row_kn hg
  have lm:(os.map K64).length=8:=by rw[List.length_map,hol]
  have all:=k64_all os
  have tk8:List.take 8 (List.drop 0 (os.map K64))=os.map K64:=by rw[List.drop_zero,List.take_of_length_le (by omega)]
  obtain⟨c,hgc,hcl⟩:=hg2
  have hsp:IH.splice c 0 (os.map K64)=os.map K64:=splice_all (by rw[hcl,lm])
  simp -dsimp (maxSteps:=1000000) (disch:=first|omega|(simp only[new_n,put_n];omega)|decide +kernel|(repeat first|rw[new_n]|rw[put_n])) only[wpS,wpT,Nat.reduceEqDiff,Nat.reduceLeDiff,ld206,st206,f2,f4,f6,r0,lm,all,tk8,hgc,hcl,hsp]
  rw[←wds_of hol hod,←wdC_wds] 
  have e8 : ∀n,n<W8→B.valT (wds n) 8=n:=fun n hn=>by rw[wds_valT n 8 (Nat.le_refl _),←W8_pw,Nat.mod_eq_of_lt hn]
  rw[e8 a ha,e8 b hb,←W8_pw] at hv
  have hvo:B.valT os 8=B.valD os:=by rw[B.valD,hol]
  rw[hvo] at hv
  exact⟨hE.put (by omega) _,B.valD os,bor,rfl,val_lt8 hol hod,hbor,hv⟩
end Go.Id

/-! Contracts: the program's wide integers as long ones, and back. -/
namespace Go.Id
open Go
theorem sizeOrder_ok {h:IH} (a b:Nat) (ha:a<W8) (hb:b<W8):WV Proofs.Tryz.prog (.func (.func 173) #[] #[]) [wdV a,wdV b] h fun r h'=>Ext h h'∧r=KI (if a<b then -1 else if a=b then 0 else 1):=by
 refine enter (nt:=24) (rs:=[.tmp 4]) Proofs.Tryz.func173 rfl rfl rfl (by simp) ?_
 simp -dsimp (maxSteps:=1000000) (disch:=first|omega|(simp only[new_n,put_n];omega)|decide +kernel|(repeat first|rw[new_n]|rw[put_n])) only[wpS,Nat.reduceEqDiff,Nat.reduceAdd,cells8]
 rw[wdC_wds a,wdC_wds b]
 have lA:=wds_len a
 have lB:=wds_len b
 have e2 : ∀o1 o2,Ext h ((h.new o1).new o2):=fun o1 o2=>((Ext.refl h).new _).new _
 have hA:B.valD (wds a)=a:=wds_val ha
 have hB:B.valD (wds b)=b:=wds_val hb
 refine loop (fun m fr h1=>h1=((h.new (.cells ((wds a).map K64) 0 none)).new (.cells ((wds b).map K64) 0 none))∧m≤8∧(∀j,m≤j→j<8→(wds a).getD j 0=(wds b).getD j 0) ∧
   fget fr 2=some (ptr (2*h.n) 0)∧fget fr 3=some (ptr (2*(h.n+1)) 0)∧fget fr 5=some (KI ((m:Int) - 1))) 8
  ⟨rfl,Nat.le_refl _,fun j h1 h2=>by omega,by simp,by simp,by simp⟩ ?_
 rintro m fr h1 ⟨rfl,hm,hz,f2,f3,f5⟩
 rcases Nat.eq_zero_or_pos m with rfl|hp
 ·simp -dsimp (maxSteps:=1000000) (disch:=first|omega|(simp only[new_n,put_n];omega)|decide +kernel|(repeat first|rw[new_n]|rw[put_n])) only[wpS,wpT,Nat.reduceEqDiff,f5]
  refine⟨e2 _ _,?_⟩
  have:=B.eq_of_all (lA.trans lB.symm) (fun j hj=>hz j (Nat.zero_le _) (by omega))
  rw[hA,hB] at this
  rw[if_neg (by omega),if_pos this]
 ·obtain⟨k,rfl⟩ : ∃k,m=k+1:=⟨m - 1,by omega⟩
  have h2:(((k+1:Nat):Int) - 1)=(k:Int):=by omega
  rw[h2] at f5
  have ga:=get_some (show k<(wds a).length by omega)
  have gb:=get_some (show k<(wds b).length by omega)
  have da:=B.getD_lt (wds_dig a) k
  have db:=B.getD_lt (wds_dig b) k
  have key:((wds a).getD k 0<(wds b).getD k 0→a<b)∧((wds b).getD k 0<(wds a).getD k 0→b<a):=by
   have k1:=fun h=>B.lt_of_top (wds_dig a) (lA.trans lB.symm) (show k<(wds a).length by omega) h (fun j x y=>hz j (by omega) (by omega))
   have k2:=fun h=>B.lt_of_top (wds_dig b) (lB.trans lA.symm) (show k<(wds b).length by omega) h (fun j x y=>(hz j (by omega) (by omega)).symm)
   rw[hA,hB] at k1 k2
   exact⟨k1,k2⟩
  obtain⟨x,hx⟩ : ∃x,x=(wds a).getD k 0:=⟨_,rfl⟩
  obtain⟨y,hy⟩ : ∃x,x=(wds b).getD k 0:=⟨_,rfl⟩
  rw[←hx] at ga da key
  rw[←hy] at gb db key
  simp -dsimp (maxSteps:=1000000) (disch:=first|omega|(simp only[new_n,put_n];omega)|decide +kernel|(repeat first|rw[new_n]|rw[put_n])) only[wpS,wpT,Nat.reduceEqDiff,ar206,ld43,f2,f3,f5,map_get,ga,gb]
  refine bq_intro ?_ ?_<;>intro hc<;>simp only[bne_iff_ne,bne_eq_false_iff_eq,ne_eq] at hc
  ·simp -dsimp (maxSteps:=1000000) (disch:=first|omega|(simp only[new_n,put_n];omega)|decide +kernel|(repeat first|rw[new_n]|rw[put_n])) only[wpS,wpT,Nat.reduceEqDiff,ar206,ld43,f2,f3,f5,map_get,ga,gb]
   refine bq_intro ?_ ?_<;>intro hc2<;>simp only[decide_eq_true_eq,decide_eq_false_iff_not] at hc2
   ·simp -dsimp (maxSteps:=1000000) (disch:=first|omega|(simp only[new_n,put_n];omega)|decide +kernel|(repeat first|rw[new_n]|rw[put_n])) only[wpS,wpT,Nat.reduceEqDiff]
    have:=key.1 (by omega)
    exact⟨e2 _ _,by rw[if_pos this]⟩
   ·simp -dsimp (maxSteps:=1000000) (disch:=first|omega|(simp only[new_n,put_n];omega)|decide +kernel|(repeat first|rw[new_n]|rw[put_n])) only[wpS,wpT]
    have:=key.2 (by omega)
    exact⟨e2 _ _,by rw[if_neg (by omega),if_neg (by omega)]⟩
  ·simp -dsimp (maxSteps:=1000000) (disch:=first|omega|(simp only[new_n,put_n];omega)|decide +kernel|(repeat first|rw[new_n]|rw[put_n])) only[wpS,wpT,Nat.reduceEqDiff,f5]
   refine⟨k,by omega,rfl,by omega,fun j h1 h2=>?_,by simp[f2],by simp[f3],by simp⟩
   by_cases hj:j=k
   ·subst hj;omega
   ·exact hz j (by omega) h2
def numV (b:Bool) (n:Nat):Value:=.agg (Value.bool b :: wdC n).toArray
theorem num_cells (b:Bool) (n:Nat):(numV b n).cells.toList=.bool b :: wdC n:=rfl
theorem wd_spl (n:Nat):IH.splice [ZW,ZW,ZW,ZW,ZW,ZW,ZW,ZW] 0 (wdC n)=wdC n:=splice_all (by rw[wdC_len];rfl)
theorem wd_spl2 (m n:Nat):IH.splice (wdC m) 0 (wdC n)=wdC n:=splice_all (by rw[wdC_len,wdC_len])
theorem num_take (b:Value) (n:Nat):List.take 8 (List.drop 1 (b :: wdC n))=wdC n:=by
 rw[List.drop_succ_cons,List.drop_zero,List.take_of_length_le (by rw[wdC_len];omega)]
theorem num_take9 (b:Value) (n:Nat):List.take 9 (List.drop 0 (b :: wdC n))=b :: wdC n:=by
 rw[List.drop_zero,List.take_of_length_le (by simp[wdC_len])]
theorem wd_tz:List.take 8 (List.drop 0 [ZW,ZW,ZW,ZW,ZW,ZW,ZW,ZW]) = [ZW,ZW,ZW,ZW,ZW,ZW,ZW,ZW]:=rfl
theorem wd_zero:Value.agg #[ZW,ZW,ZW,ZW,ZW,ZW,ZW,ZW]=wdV 0:=by rw[wdV,wdC_zero]
theorem read_ok {h:IH} (n:Nat) (hn:n<W8):WV Proofs.Tryz.prog (.func (.func 157) #[] #[]) [wdV n] h fun r h'=>Ext h h'∧r=numV (decide (wdI n<0)) (wdI n).natAbs:=by
 have h7:=wrd7 hn
 have l7:=wrd_lt n 7
 have hs:nshr (wrd n 7) 63=wrd n 7 / 9223372036854775808:=Nat.shiftRight_eq_div_pow _ _
 have hbit:((((wrd n 7 / 9223372036854775808:Nat):Int)) == 1)=decide (wdI n<0):=by
  have h2:=H8_two
  by_cases hlt:n<H8
  ·have e1:wrd n 7 / 9223372036854775808=0:=by have:=h7.2 hlt;omega
   rw[e1,wdI,if_pos hlt];simp
  ·have e1:wrd n 7 / 9223372036854775808=1:=by
    have : ¬wrd n 7<9223372036854775808:=fun h=>hlt (h7.1 h)
    omega
   rw[e1,wdI,if_neg hlt];simp;omega
 refine enter (nt:=21) (rs:=[.cell 2 208]) Proofs.Tryz.func157 rfl rfl rfl (by simp) ?_
 simp -dsimp (maxSteps:=1000000) (disch:=first|omega|(simp only[new_n,put_n];omega)|decide +kernel|(repeat first|rw[new_n]|rw[put_n])) only[wpS,wpT,Nat.reduceEqDiff,Nat.reduceLeDiff,Nat.reduceAdd,Int.reduceToNat,zc208,ar45,ld43,ld45,bv208,pl208_0,pl208_1,st208,fa208_0,ld4,cells8,wdC_len,wdC_all,wd_take,ar45,wdC_get n 7 (by omega),show idxAt 7 8=some 7 from rfl,hs,hbit,wd_spl]
 refine bq_intro ?_ ?_<;>intro hc<;>simp only[decide_eq_true_eq,decide_eq_false_iff_not] at hc
 ·have h2:=H8_two
  have hge:H8≤n:=by
   unfold wdI at hc
   split at hc<;>omega
  have hw:wdI n = -((W8 - n:Nat):Int):=by
   unfold wdI
   rw[if_neg (by omega)]
   omega
  simp -dsimp (maxSteps:=1000000) (disch:=first|omega|(simp only[new_n,put_n];omega)|decide +kernel|(repeat first|rw[new_n]|rw[put_n])) only[wpS,wpT,Nat.reduceEqDiff,Nat.reduceLeDiff,Nat.reduceAdd,bv206,fa208_1,ld206,num_take,wdC_len]
  rw[wd_zero]
  refine call (sizeMinus_ok 0 n (by omega) hn) ?_
  rintro _ h1 ⟨hE,m,bor,rfl,hm,hb,hrel⟩
  have hp:=H8_pos
  have hb1:bor=1:=by
   rcases Nat.eq_zero_or_pos bor with h0|h0
   ·subst h0;omega
   ·omega
  subst hb1
  have hmm:(wdI n).natAbs=m:=by omega
  rw[hmm]
  have n1:=(hE).n;try simp only[new_n,put_n] at n1
  have g2:h1.ext.get (h.n+1+1)=some (.cells (.bool true :: wdC n) 0 none):=by rw[hE.get _ (by simp)];simp (disch:=first|omega|(simp only[new_n,put_n];omega)|(repeat first|rw[new_n]|rw[put_n])) only[get_put_same]
  have g1:h1.ext.get (h.n+1)=some (.cells [.bool false,ZW,ZW,ZW,ZW,ZW,ZW,ZW,ZW] 0 none):=by rw[hE.get _ (by simp)];simp (disch:=first|omega|(simp only[new_n,put_n];omega)|(repeat first|rw[new_n]|rw[put_n])) only[get_new_same,get_new_old,get_put_old]
  simp -dsimp (maxSteps:=1000000) (disch:=first|omega|(simp only[new_n,put_n];omega)|decide +kernel|(repeat first|rw[new_n]|rw[put_n])) only[wpS,wpT,Nat.reduceEqDiff,Nat.reduceLeDiff,Nat.reduceAdd,st208,fa208_1,st206,ld208,g2,cells8,wdC_len,wdC_all,wd_spl2,num_take9,g1,wd_spl]
  refine⟨?_,by simp[numV]⟩
  exact(((((Ext.refl h).new _).new _).new _).put (by omega) _).trans hE |>.put (by omega) _ |>.put (by omega) _
 ·have hlt:n<H8:=by
   apply Classical.byContradiction;intro hne
   apply hc
   unfold wdI
   rw[if_neg hne];omega
  have hw:(wdI n).natAbs=n:=by unfold wdI;rw[if_pos hlt];omega
  simp -dsimp (maxSteps:=1000000) (disch:=first|omega|(simp only[new_n,put_n];omega)|decide +kernel|(repeat first|rw[new_n]|rw[put_n])) only[wpS,wpT,Nat.reduceEqDiff,Nat.reduceLeDiff,Nat.reduceAdd,st208,ld208,wdC_len,wdC_all,num_take9,wd_spl]
  rw[hw]
  exact⟨((((Ext.refl h).new _).new _).new _).put (by omega) _ |>.put (by omega) _,by simp[numV]⟩
theorem longer_ok {h:IH} (n:Nat) (hn:n<W8):WV Proofs.Tryz.prog (.func (.func 126) #[] #[]) [wdV n] h fun r h'=>Ext h h'∧PLong h' r (wdI n):=by
 have h2:=H8_two
 have hab:(wdI n).natAbs<W8:=by unfold wdI;split<;>omega
 refine enter (nt:=13) (rs:=[.cell 2 94]) Proofs.Tryz.func126 rfl rfl rfl (by simp) ?_
 simp -dsimp (maxSteps:=1000000) (disch:=first|omega|(simp only[new_n,put_n];omega)|decide +kernel|(repeat first|rw[new_n]|rw[put_n])) only[wpS,Nat.reduceEqDiff,Nat.reduceLeDiff,zc94,ld45,cells8,wdC_len,wd_take]
 refine call (read_ok n hn) ?_
 rintro _ h1 ⟨hE,rfl⟩
 have n1:=(hE).n;try simp only[new_n] at n1
 simp -dsimp (maxSteps:=1000000) (disch:=first|omega|(simp only[new_n,put_n];omega)|decide +kernel|(repeat first|rw[new_n]|rw[put_n])) only[wpS,wpT,Nat.reduceEqDiff,Nat.reduceLeDiff,Nat.reduceAdd,zc208,st208,num_cells,wdC_len,wdC_all,wd_spl]
 obtain⟨H2,hH2⟩ : ∃H2,H2=(h1.new (.cells [.bool false,ZW,ZW,ZW,ZW,ZW,ZW,ZW,ZW] 0 none)).put h1.n (.cells (.bool (decide (wdI n<0)) :: wdC (wdI n).natAbs) 0 none):=⟨_,rfl⟩
 have n2:H2.n=h1.n+1:=by rw[hH2];rfl
 have g3:H2.ext.get h1.n=some (.cells (.bool (decide (wdI n<0)) :: wdC (wdI n).natAbs) 0 none):=by rw[hH2];simp (disch:=first|omega|(simp only[new_n,put_n];omega)|(repeat first|rw[new_n]|rw[put_n])) only[get_put_same]
 have g1:H2.ext.get (h.n+1)=some (.cells ZL 0 none):=by rw[hH2];simp (disch:=first|omega|(simp only[new_n,put_n];omega)|(repeat first|rw[new_n]|rw[put_n])) only[get_new_old,get_put_old];rw[hE.get _ (by simp)];simp (disch:=first|omega|(simp only[new_n,put_n];omega)|(repeat first|rw[new_n]|rw[put_n])) only[get_new_same]
 have E2:Ext h H2:=by rw[hH2];exact(((((Ext.refl h).new _).new _).trans hE).new _).put (by omega) _
 rw[←hH2]
 have r3:=row_kn g3
 have r4:(H2.new (.cells [] 1 none)).row (2*h1.n)=some (.bool (decide (wdI n<0)) :: wdC (wdI n).natAbs):=row_kn (by simp (disch:=first|omega|(simp only[new_n,put_n];omega)|(repeat first|rw[new_n]|rw[put_n])) only[get_new_old];exact g3)
 have hnow:SlNow (H2.new (.cells [] 1 none)) 1 (.slice (some ⟨2*h1.n,1,none⟩) 8 (2*8+1)) 8 (wdC (wdI n).natAbs):=arr_now r4 (by omega) (by rw[wdC_len]) (num_take _ _) (by simp[wdC_len])
 have hap:=append_zero ap92 (H2.new (.cells [] 1 none)) hnow (by omega) (wdC_all _) (by omega) (2*H2.n) 0
 refine drawn [(1,[5,6])] (by kernel_rfl) (by kernel_rfl) rfl ?_
 simp -dsimp (maxSteps:=1000000) (disch:=first|omega|(simp only[new_n,put_n];omega)|decide +kernel|(repeat first|rw[new_n]|rw[put_n])) only[wpS,wpT,Nat.reduceEqDiff,Nat.reduceAdd,Nat.reduceMul,fa208_0,ld4,bs92,fa208_1,ba92_92,r3,slice_arr (P:=Proofs.Tryz.prog) u206 sz43 (by omega),hap]
 have hW:WrdU ((H2.new (.cells [] 1 none)).new (.cells (wdC (wdI n).natAbs) 1 none)) (.slice (some ⟨2*(H2.n+1),0,none⟩) 8 16) (wds (wdI n).natAbs):=by
  refine⟨?_,wds_dig _,by rw[wds_len];omega⟩
  rw[←wdC_wds,wds_len]
  exact(acc_new (h:=H2.new (.cells [] 1 none)) (sz:=1) (m:=8) (by omega) (by rw[wdC_len]) (by omega)).sl
 refine call (trimmed_ok hW _) ?_
 rintro _ h3 ⟨hE3,hr⟩
 rw[wds_val hab] at hr
 have hz:(if decide (wdI n<0)=true then -((wdI n).natAbs:Int) else (wdI n).natAbs)=wdI n:=by
  by_cases h0:wdI n<0<;>simp[h0]<;>omega
 rw[hz] at hr
 obtain⟨s1,n3,rfl,c3,o3,l3,z3⟩:=hr.form
 have m3:=(hE3).n;try simp only[new_n] at m3
 have hg:h3.ext.get (h.n+1)=some (.cells ZL 0 none):=by rw[hE3.get _ (by simp only[new_n];omega)];simp (disch:=first|omega|(simp only[new_n,put_n];omega)|(repeat first|rw[new_n]|rw[put_n])) only[get_new_old];exact g1
 have r5:((H2.new (.cells [] 1 none)).new (.cells (wdC (wdI n).natAbs) 1 none)).row (2*h1.n)=some (.bool (decide (wdI n<0)) :: wdC (wdI n).natAbs):=row_kn (by simp (disch:=first|omega|(simp only[new_n,put_n];omega)|(repeat first|rw[new_n]|rw[put_n])) only[get_new_old];exact g3)
 have r6:h3.row (2*h1.n)=some (.bool (decide (wdI n<0)) :: wdC (wdI n).natAbs):=row_kn (by rw[hE3.get _ (by simp only[new_n];omega)];simp (disch:=first|omega|(simp only[new_n,put_n];omega)|(repeat first|rw[new_n]|rw[put_n])) only[get_new_old];exact g3)
 simp -dsimp (maxSteps:=1000000) (disch:=first|omega|(simp only[new_n,put_n];omega)|decide +kernel|(repeat first|rw[new_n]|rw[put_n])) only[wpS,wpT,Nat.reduceEqDiff,Nat.reduceLeDiff,Nat.reduceAdd,st94,hg,o3]
 refine⟨wpSteady_two (wpSteady_one rfl rfl rfl rfl (steady_load (av:=ptr (2*h1.n) 0) (v:=.bool (decide (wdI n<0))) rfl ?_ ?_)) (wpSteady_one rfl rfl rfl rfl (steady_load (av:=ptr (2*h1.n) 0) (v:=.bool (decide (wdI n<0))) rfl ?_ ?_)),?_⟩
 ·simp -dsimp (maxSteps:=1000000) (disch:=first|omega|(simp only[new_n,put_n];omega)|decide +kernel|(repeat first|rw[new_n]|rw[put_n])) only[wpS,ld4,r3]
 ·simp -dsimp (maxSteps:=1000000) (disch:=first|omega|(simp only[new_n,put_n];omega)|decide +kernel|(repeat first|rw[new_n]|rw[put_n])) only[wpS,ld4,r4]
 ·simp -dsimp (maxSteps:=1000000) (disch:=first|omega|(simp only[new_n,put_n];omega)|decide +kernel|(repeat first|rw[new_n]|rw[put_n])) only[wpS,ld4,r3]
 ·simp -dsimp (maxSteps:=1000000) (disch:=first|omega|(simp only[new_n,put_n];omega)|decide +kernel|(repeat first|rw[new_n]|rw[put_n])) only[wpS,ld4,r5]
 simp -dsimp (maxSteps:=1000000) (disch:=first|omega|(simp only[new_n,put_n];omega)|decide +kernel|(repeat first|rw[new_n]|rw[put_n])) only[wpS,wpT,Nat.reduceEqDiff,Nat.reduceLeDiff,Nat.reduceAdd,ld94]
 exact⟨(((E2.new _).new _).trans hE3).put (by omega) _,hr.keep ((Keep.refl _).put hg _)⟩
theorem h8_cells : [ZW,ZW,ZW,ZW,ZW,ZW,ZW,.int .u64 9223372036854775808]=wdC H8:=by
 have h2:B.valD [0,0,0,0,0,0,0,9223372036854775808]=H8:=by unfold H8;simp[B.valD,B.valT]
 have h3:=wds_of (ds:=[0,0,0,0,0,0,0,9223372036854775808]) rfl (by intro d hd;simp at hd;omega)
 rw[h2] at h3
 rw[wdC_wds,h3];rfl
theorem numTold_ok {h:IH} (b:Bool) (n:Nat) (hn:n<W8):WV Proofs.Tryz.prog (.func (.func 163) #[] #[]) [numV b n] h fun r h'=>Ext h h'∧r=if H8<n∨(n=H8∧b=false) then .tuple #[wdV 0,KI 6] else .tuple #[wdV (if b=true then (W8 - n) % W8 else n),KI 0]:=by
 have h2:=H8_two
 have hp:=H8_pos
 refine enter (nt:=35) (rs:=[.cell 2 45,.tmp 3]) Proofs.Tryz.func163 rfl rfl rfl (by simp) ?_
 simp -dsimp (maxSteps:=1000000) (disch:=first|omega|(simp only[new_n,put_n];omega)|decide +kernel|(repeat first|rw[new_n]|rw[put_n])) only[wpS,wpT,Nat.reduceEqDiff,Nat.reduceLeDiff,Nat.reduceAdd,zc45,bv206,pl206_7,zc206,st206,fa208_1,ld206,num_cells,wdC_len,num_take]
 rw[h8_cells]
 simp -dsimp (maxSteps:=1000000) (disch:=first|omega|(simp only[new_n,put_n];omega)|decide +kernel|(repeat first|rw[new_n]|rw[put_n])) only[wd_take]
 refine call (sizeOrder_ok n H8 hn (by omega)) ?_
 rintro _ h1 ⟨hE,rfl⟩
 have n1:=(hE).n;try simp only[new_n,put_n] at n1
 have g0:h1.ext.get h.n=some (.cells (.bool b :: wdC n) 0 none):=by rw[hE.get _ (by simp<;>omega)];simp (disch:=first|omega|(simp only[new_n,put_n];omega)|(repeat first|rw[new_n]|rw[put_n])) only[get_new_same,get_new_old,get_put_old]
 have g1:h1.ext.get (h.n+1)=some (.cells [ZW,ZW,ZW,ZW,ZW,ZW,ZW,ZW] 0 none):=by rw[hE.get _ (by simp)];simp (disch:=first|omega|(simp only[new_n,put_n];omega)|(repeat first|rw[new_n]|rw[put_n])) only[get_new_same,get_new_old,get_put_old]
 have hE1:=((((Ext.refl h).new _).new _).new _).put (by omega) _ |>.trans hE
 have r0:=row_kn g0
 have r1:=row_kn g1
 rcases Nat.lt_trichotomy n H8 with hlt|heq|hgt
 ·rw[if_pos hlt,if_neg (by omega)]
  cases b
  ·simp -dsimp (maxSteps:=1000000) (disch:=first|omega|(simp only[new_n,put_n];omega)|decide +kernel|(repeat first|rw[new_n]|rw[put_n])) only[wpS,wpT,Nat.reduceEqDiff,Nat.reduceLeDiff,Nat.reduceAdd,fa208_1,ld206,fa208_0,ld4,st45,ld45,r0,g1,wdC_len,wdC_all,num_take,wd_spl,wd_take]
   exact⟨hE1.put (by omega) _,by simp;rfl⟩
  ·simp -dsimp (maxSteps:=1000000) (disch:=first|omega|(simp only[new_n,put_n];omega)|decide +kernel|(repeat first|rw[new_n]|rw[put_n])) only[wpS,wpT,Nat.reduceEqDiff,Nat.reduceLeDiff,Nat.reduceAdd,bv206,fa208_1,ld206,fa208_0,ld4,r0,wdC_len,num_take]
   rw[wd_zero]
   refine call (sizeMinus_ok 0 n (by omega) hn) ?_
   rintro _ h3 ⟨hE3,m,bor,rfl,hm,hb,hrel⟩
   have hmm:(W8 - n) % W8=m:=by
    rcases Nat.eq_zero_or_pos bor with h0|h0
    ·subst h0
     have h5:n=0:=by omega
     rw[h5,Nat.sub_zero,Nat.mod_self];omega
    ·have h5:bor=1:=by omega
     subst h5
     by_cases h6:n=0
     ·exfalso;omega
     ·rw[Nat.mod_eq_of_lt (by omega)];omega
   have n3:=(hE3).n;try simp only[new_n,put_n] at n3
   have k0:=(hE3.get _ (by omega)).trans g0
   have k1:=(hE3.get _ (by omega)).trans g1
   simp -dsimp (maxSteps:=1000000) (disch:=first|omega|(simp only[new_n,put_n];omega)|decide +kernel|(repeat first|rw[new_n]|rw[put_n])) only[wpS,wpT,Nat.reduceEqDiff,Nat.reduceLeDiff,Nat.reduceAdd,st206,fa208_1,ld206,st45,ld45,k0,k1,cells8,wdC_len,wdC_all,num_take,wd_spl2,wd_spl,wd_take]
   refine⟨((hE1.trans hE3).put (by omega) _).put (by omega) _,?_⟩
   rw[hmm]
   simp
   try rfl
 ·subst heq
  rw[if_neg (by omega),if_pos rfl]
  cases b
  ·simp -dsimp (maxSteps:=1000000) (disch:=first|omega|(simp only[new_n,put_n];omega)|decide +kernel|(repeat first|rw[new_n]|rw[put_n])) only[wpS,wpT,Nat.reduceEqDiff,Nat.reduceLeDiff,Nat.reduceAdd,fa208_0,ld4,bv45,st45,ld45,r0,g1,wd_tz]
   refine⟨hE1.put (by omega) _,?_⟩
   simp[wd_zero]
  ·simp -dsimp (maxSteps:=1000000) (disch:=first|omega|(simp only[new_n,put_n];omega)|decide +kernel|(repeat first|rw[new_n]|rw[put_n])) only[wpS,wpT,Nat.reduceEqDiff,Nat.reduceLeDiff,Nat.reduceAdd,bv206,fa208_1,ld206,fa208_0,ld4,r0,wdC_len,num_take]
   rw[wd_zero]
   refine call (sizeMinus_ok 0 H8 (by omega) hn) ?_
   rintro _ h3 ⟨hE3,m,bor,rfl,hm,hb,hrel⟩
   have hmm:(W8 - H8) % W8=m:=by
    rcases Nat.eq_zero_or_pos bor with h0|h0
    ·subst h0
     have h5:H8=0:=by omega
     rw[h5,Nat.sub_zero,Nat.mod_self];omega
    ·have h5:bor=1:=by omega
     subst h5
     by_cases h6:H8=0
     ·exfalso;omega
     ·rw[Nat.mod_eq_of_lt (by omega)];omega
   have n3:=(hE3).n;try simp only[new_n,put_n] at n3
   have k0:=(hE3.get _ (by omega)).trans g0
   have k1:=(hE3.get _ (by omega)).trans g1
   simp -dsimp (maxSteps:=1000000) (disch:=first|omega|(simp only[new_n,put_n];omega)|decide +kernel|(repeat first|rw[new_n]|rw[put_n])) only[wpS,wpT,Nat.reduceEqDiff,Nat.reduceLeDiff,Nat.reduceAdd,st206,fa208_1,ld206,st45,ld45,k0,k1,cells8,wdC_len,wdC_all,num_take,wd_spl2,wd_spl,wd_take]
   refine⟨((hE1.trans hE3).put (by omega) _).put (by omega) _,?_⟩
   rw[hmm]
   simp
   try rfl
 ·rw[if_neg (by omega),if_neg (by omega)]
  simp -dsimp (maxSteps:=1000000) (disch:=first|omega|(simp only[new_n,put_n];omega)|decide +kernel|(repeat first|rw[new_n]|rw[put_n])) only[wpS,wpT,Nat.reduceEqDiff,Nat.reduceLeDiff,Nat.reduceAdd,bv45,st45,ld45,g1,wd_tz]
  refine⟨hE1.put (by omega) _,?_⟩
  rw[wd_zero,if_pos (.inl hgt)]
end Go.Id

/-! Contracts: the program's long integers told; integers as long ones. -/
namespace Go.Id
open Go
theorem copy_zero {P:Program} {t e:TypeId} {sz:Nat} (hu:P.underlying t=some (.slice e)) (hS:sizeT P e=some sz) (h:IH) (b o n c:Nat) {s:Value} {ss:List Value} (hs:SlNow h sz s 0 ss) (ts:Array TypeId) (ht:ts[0]?=some t) :
  builtin P h .copy ts [.slice (some ⟨b,o,none⟩) n c,s]=some (.int .i64 0,h):=by
 have hf:firstOf h sz 0 s=some []:=by
  obtain⟨hz,hl,⟨rfl,_⟩|⟨b,o,k,rfl,s⟩⟩:=hs
  ·rfl
  ·simp[firstOf];rfl
 obtain⟨a',k,rfl⟩:=hs.form
 simp only[builtin,ht,copyOp,hu,lenOf,hS,show Nat.min 0 n=0 from Nat.zero_min _,hf]
 rfl
theorem pad_wd {ds:List Nat} (hl:ds.length≤8) (hd:B.Digs ds):IH.splice [ZW,ZW,ZW,ZW,ZW,ZW,ZW,ZW] 0 (ds.map K64)=wdC (B.valD ds):=by
 have hv : ∀k,B.valD (ds ++ List.replicate k 0)=B.valD ds:=by
  intro k
  rw[show B.valD ds=B.valT (ds ++ List.replicate k 0) ds.length from B.valT_congr fun j hj=>by
   rw[List.getD_eq_getElem?_getD,List.getD_eq_getElem?_getD,List.getElem?_append_left hj]]
  rw[B.valD]
  have:(ds ++ List.replicate k 0).length=ds.length+k:=by simp
  rw[this]
  apply B.valT_split
  intro j h1 h2
  rw[List.getD_eq_getElem?_getD,List.getElem?_append_right h1]
  rw[←List.getD_eq_getElem?_getD];exact B.getD_repl _ _
 have hD:B.Digs (ds ++ List.replicate (8 - ds.length) 0):=fun d h=>by
  rcases List.mem_append.1 h with h|h
  ·exact hd d h
  ·simp at h;omega
 have h8:(ds ++ List.replicate (8 - ds.length) 0).length=8:=by simp;omega
 have:=wds_of h8 hD
 rw[hv] at this
 rw[wdC_wds,this,List.map_append,List.map_replicate]
 have hz : [ZW,ZW,ZW,ZW,ZW,ZW,ZW,ZW]=List.replicate 8 ZW:=rfl
 rw[hz,IH.splice,List.take_zero,List.nil_append,List.length_map,List.drop_replicate,Nat.zero_add]
 rfl
theorem len_gt8 {ds:List Nat} (n:B.Norm ds) (h:8<ds.length):W8≤B.valD ds:=by
 have h1:=n.ge (by intro h0;rw[h0] at h;simp at h)
 rw[W8_pw]
 exact Nat.le_trans (Nat.pow_le_pow_right (by omega) (by omega)) h1
set_option maxHeartbeats 2000000 in
theorem ptold_ok {h:IH} {v:Value} {z:Int} (hv:PLong h v z):WV Proofs.Tryz.prog (.func (.func 139) #[] #[]) [v] h fun r h'=>Ext h h'∧r=if InW z then .tuple #[wideV z,KI 0] else .tuple #[wdV 0,KI 6]:=by
 obtain⟨s,rfl,ds,hD,hN,hx⟩:=hv
 have hb:=hD.2.2
 have h2:=H8_two
 have hp:=H8_pos
 refine enter (nt:=22) (rs:=[.cell 2 45,.tmp 3]) Proofs.Tryz.func139 rfl rfl rfl (by simp) ?_
 simp -dsimp (maxSteps:=1000000) (disch:=first|omega|(simp only[new_n,put_n];omega)|decide +kernel|(repeat first|rw[new_n]|rw[put_n])) only[wpS,Nat.reduceEqDiff,zc45,fa94_1,ld92,hD.1.len sl92]
 refine bq_intro ?_ ?_<;>intro hc<;>simp only[decide_eq_true_eq,decide_eq_false_iff_not] at hc
 ·have hgt:=len_gt8 hN (by omega)
  have hin : ¬InW z:=by rintro⟨h3,h4⟩;omega
  rw[if_neg hin]
  simp -dsimp (maxSteps:=1000000) (disch:=first|omega|(simp only[new_n,put_n];omega)|decide +kernel|(repeat first|rw[new_n]|rw[put_n])) only[wpS,wpT,Nat.reduceEqDiff,Nat.reduceLeDiff,Nat.reduceAdd,bv45,st45,ld45,wd_tz]
  exact⟨(((Ext.refl h).new _).new _).put (by omega) _,by rw[wd_zero]⟩
 ·have hl:ds.length≤8:=by omega
  have hlt:B.valD ds<W8:=by
   have:=B.valD_lt hD.2.1
   rw[W8_pw]
   exact Nat.lt_of_lt_of_le this (Nat.pow_le_pow_right (by omega) hl)
  simp -dsimp (maxSteps:=1000000) (disch:=first|omega|(simp only[new_n,put_n];omega)|decide +kernel|(repeat first|rw[new_n]|rw[put_n])) only[wpS,wpT,Nat.reduceEqDiff,Nat.reduceLeDiff,Nat.reduceAdd,fa94_0,ld4,bv208,pl208_0,zc208,st208,fa208_1]
  obtain⟨H2,hH2⟩ : ∃H2,H2=((((h.new (.cells [.bool (decide (z<0)),s] 0 none)).new (.cells [ZW,ZW,ZW,ZW,ZW,ZW,ZW,ZW] 0 none)).new (.cells [.bool false,ZW,ZW,ZW,ZW,ZW,ZW,ZW,ZW] 0 none)).put (h.n+1+1) (.cells [.bool (decide (z<0)),ZW,ZW,ZW,ZW,ZW,ZW,ZW,ZW] 0 none)):=⟨_,rfl⟩
  have n2:H2.n=h.n+3:=by rw[hH2];rfl
  have g0:H2.ext.get h.n=some (.cells [.bool (decide (z<0)),s] 0 none):=by rw[hH2];simp (disch:=first|omega|(simp only[new_n,put_n];omega)|(repeat first|rw[new_n]|rw[put_n])) only[get_new_same,get_new_old,get_put_old]
  have g1:H2.ext.get (h.n+1)=some (.cells [ZW,ZW,ZW,ZW,ZW,ZW,ZW,ZW] 0 none):=by rw[hH2];simp (disch:=first|omega|(simp only[new_n,put_n];omega)|(repeat first|rw[new_n]|rw[put_n])) only[get_new_same,get_new_old,get_put_old]
  have g2:H2.ext.get (h.n+1+1)=some (.cells [.bool (decide (z<0)),ZW,ZW,ZW,ZW,ZW,ZW,ZW,ZW] 0 none):=by rw[hH2];simp (disch:=first|omega|(simp only[new_n,put_n];omega)|(repeat first|rw[new_n]|rw[put_n])) only[get_put_same]
  have E2:Ext h H2:=by rw[hH2];exact((((Ext.refl h).new _).new _).new _).put (by omega) _
  rw[←hH2]
  have r0:=row_kn g0
  have sa:=slice_arr (P:=Proofs.Tryz.prog) u206 sz43 (by omega)
  have hs2:=(hD.keep E2.keep).1.now
  have hcp : ∃H3,builtin Proofs.Tryz.prog H2 .copy #[92,92] [.slice (some ⟨2*(h.n+1+1),1,none⟩) 8 17,s]=some (.int .i64 (ds.length:Int),H3)∧Ext h H3∧H3.n=h.n+3∧H3.ext.get (h.n+1)=some (.cells [ZW,ZW,ZW,ZW,ZW,ZW,ZW,ZW] 0 none)∧H3.ext.get (h.n+1+1)=some (.cells (.bool (decide (z<0)) :: wdC z.natAbs) 0 none):=by
   rcases Nat.eq_zero_or_pos ds.length with h0|h0
   ·have hd0:ds = []:=List.length_eq_zero_iff.1 h0
    subst hd0
    have hz0:z.natAbs=0:=by rw[←hx];rfl
    refine⟨H2,copy_zero u92 sz43 H2 _ _ _ _ hs2 _ rfl,E2,n2,g1,?_⟩
    rw[hz0,wdC_zero];exact g2
   ·have hm:min ds.length 8=ds.length:=by omega
    have:=copy_eq (P:=Proofs.Tryz.prog) u92 sz43 g2 (o:=1) (dn:=8) (c:=17) hs2 (k64_all _) (by omega) (by simp;omega) #[92,92] rfl
    rw[hm,Nat.mul_one,List.take_of_length_le (by simp),splice_succ,pad_wd hl hD.2.1,hx] at this
    exact⟨_,this,E2.put (by omega) _,n2,by simp (disch:=first|omega|(simp only[new_n,put_n];omega)|(repeat first|rw[new_n]|rw[put_n])) only[get_put_old];exact g1,get_put_same _ _ rfl⟩
  obtain⟨H3,hcp,E3,n3,g3,g4⟩:=hcp
  have r4:=row_kn g4
  simp -dsimp (maxSteps:=1000000) (disch:=first|omega|(simp only[new_n,put_n];omega)|decide +kernel|(repeat first|rw[new_n]|rw[put_n])) only[wpS,wpT,Nat.reduceEqDiff,Nat.reduceLeDiff,Nat.reduceAdd,Nat.reduceMul,fa94_1,ld92,ld208,r0,sa,hcp,r4,num_take9,wdC_len]
  refine call (numTold_ok (decide (z<0)) z.natAbs (by omega)) ?_
  rintro _ h4 ⟨hE4,rfl⟩
  have g5:=(hE4.get _ (by omega)).trans g3
  by_cases hin:InW z
  ·have e1 : ¬(H8<z.natAbs∨z.natAbs=H8∧decide (z<0)=false):=by
    obtain⟨i1,i2⟩:=hin
    rintro(h5|⟨h5,h6⟩)
    ·omega
    ·have : ¬z<0:=by simpa using h6
     omega
   have e2:(if decide (z<0)=true then (W8 - z.natAbs) % W8 else z.natAbs)=wideN z:=by
    obtain⟨i1,i2⟩:=hin
    unfold wideN
    by_cases h6:z<0
    ·rw[if_pos (by simpa using h6),if_neg (by omega),Nat.mod_eq_of_lt (by omega)]
    ·rw[if_neg (by simpa using h6),if_pos (by omega)];omega
   rw[if_neg e1,if_pos hin,e2]
   simp -dsimp (maxSteps:=1000000) (disch:=first|omega|(simp only[new_n,put_n];omega)|decide +kernel|(repeat first|rw[new_n]|rw[put_n])) only[wpS,wpT,Nat.reduceEqDiff,Nat.reduceLeDiff,Nat.reduceAdd,st45,ld45,g5,cells8,wdC_len,wdC_all,wd_spl,wd_take]
   exact⟨(E3.trans hE4).put (by omega) _,rfl⟩
  ·have e1:H8<z.natAbs∨z.natAbs=H8∧decide (z<0)=false:=by
    unfold InW at hin
    by_cases h6:z<0
    ·left;omega
    ·by_cases h7:z.natAbs=H8
     ·right;exact⟨h7,by simpa using h6⟩
     ·left;omega
   rw[if_pos e1,if_neg hin]
   simp -dsimp (maxSteps:=1000000) (disch:=first|omega|(simp only[new_n,put_n];omega)|decide +kernel|(repeat first|rw[new_n]|rw[put_n])) only[wpS,wpT,Nat.reduceEqDiff,Nat.reduceLeDiff,Nat.reduceAdd,st45,ld45,g5,cells8,wdC_len,wdC_all,wd_spl,wd_take]
   exact⟨(E3.trans hE4).put (by omega) _,rfl⟩
theorem pfrom_ok {h:IH} (n:Int) (hn:In64 n):WV Proofs.Tryz.prog (.func (.func 98) #[] #[]) [KI n] h fun r h'=>Ext h h'∧PLong h' r n:=by
 have hw:InW n:=by
  have:=H8_big
  constructor
  ·have:=hn.1;omega
  ·have:=hn.2;omega
 refine enter (nt:=6) (rs:=[.cell 2 94]) Proofs.Tryz.func98 rfl rfl rfl (by simp) ?_
 simp -dsimp (disch:=omega) only[wpS,Nat.reduceEqDiff,zc94]
 refine call (wideOf_ok n hn) ?_
 rintro _ h1 ⟨hE,rfl⟩
 simp -dsimp (disch:=omega) only[wpS,Nat.reduceEqDiff]
 refine call (longer_ok _ (wideN_lt hw)) ?_
 rintro _ h2 ⟨hE2,hr⟩
 rw[wdI_wideN hw] at hr
 obtain⟨s1,n3,rfl,c3,o3,l3,z3⟩:=hr.form
 have m1:=(hE).n;try simp only[new_n] at m1
 have m2:=(hE2).n;try simp only[new_n,put_n] at m2
 have hg:h2.ext.get h.n=some (.cells ZL 0 none):=by rw[hE2.get _ (by omega),hE.get _ (by simp)];simp (disch:=first|omega|(simp only[new_n,put_n];omega)|(repeat first|rw[new_n]|rw[put_n])) only[get_new_same]
 simp -dsimp (disch:=omega) only[wpS,wpT,Nat.reduceEqDiff,Nat.reduceLeDiff,Nat.reduceAdd,st94,ld94,hg,o3]
 exact⟨((((Ext.refl h).new _).trans hE).trans hE2).put (by omega) _,hr.keep ((Keep.refl _).put hg _)⟩
end Go.Id

/-! Contracts: the program's long integers: divisors, quotients with remainders. -/
namespace Go.Id
open Go
set_option maxHeartbeats 4000000 in
theorem pcommon_ok {h:IH} {v w:Value} {x y:Int} (hv:PLong h v x) (hw:PLong h w y) (sx:SmallI x) (sy:SmallI y) :
  WV Proofs.Tryz.prog (.func (.func 99) #[] #[]) [v,w] h fun r h'=>Ext h h'∧PLong h' r (Int.gcd x y):=by
 obtain⟨s,rfl,hS⟩:=hv
 obtain⟨t,rfl,hT⟩:=hw
 obtain⟨ds,hD,hN,hx⟩:=id hS
 obtain⟨es,hE,hM,hy⟩:=id hT
 refine enter (nt:=26) (rs:=[.cell 4 94]) Proofs.Tryz.func99 rfl rfl rfl (by simp) ?_
 simp -dsimp (maxSteps:=1000000) (disch:=first|omega|(simp only[new_n,put_n];omega)|decide +kernel|(repeat first|rw[new_n]|rw[put_n])) only[wpS,Nat.reduceEqDiff,Nat.reduceAdd,zc94,fa94_1,ld92]
 have kk : ∀o1 o2 o3,Ext h (((h.new o1).new o2).new o3):=fun o1 o2 o3=>(((Ext.refl h).new _).new _).new _
 refine loop (fun m fr h1 => ∃(xv yv:Value) (a:Nat),Ext (((h.new (.cells [.bool (decide (x<0)),s] 0 none)).new (.cells [.bool (decide (y<0)),t] 0 none)).new (.cells ZL 0 none)) h1∧Wrd h1 xv a∧Wrd h1 yv m∧Small a∧Small m∧Nat.gcd a m=Int.gcd x y∧fget fr 4=some (ptr (2*(h.n+1+1)) 0)∧fget fr 5=some xv∧fget fr 6=some yv) y.natAbs
  ⟨s,t,x.natAbs,Ext.refl _,hS.keep (kk _ _ _).keep,hT.keep (kk _ _ _).keep,sx,sy,rfl,by simp,by simp,by simp⟩ ?_
 clear hS hT hD hN hx hE hM hy ds es
 rintro m fr h1 ⟨xv,yv,a,hE1,hA,hB,sa,sb,hgcd,f4,f5,f6⟩
 obtain⟨ds,hD,hN,hx⟩:=id hA
 obtain⟨es,hE,hM,hy⟩:=id hB
 have hz:=hM.nil_iff
 rw[hy] at hz
 have l1:ds.length≤1000000:=small64' hN (by rw[hx];exact sa)
 have l2:es.length≤1000000:=small64' hM (by rw[hy];exact sb)
 by_cases hm:m=0
 ·have hes:es = []:=hz.1 hm
  have len0:lenB Proofs.Tryz.prog h1 92 yv=some (.int .i64 ((0:Nat):Int)):=by have:=hE.1.len (P:=Proofs.Tryz.prog) sl92 h1;rw[hes] at this;exact this
  have hg:h1.ext.get (h.n+1+1)=some (.cells ZL 0 none):=by rw[hE1.get _ (by simp)];exact get_new_same _ _ rfl
  simp -dsimp (maxSteps:=1000000) (disch:=first|omega|(simp only[new_n,put_n];omega)|decide +kernel|(repeat first|rw[new_n]|rw[put_n])) only[wpS,wpT,Nat.reduceEqDiff,Nat.reduceLeDiff,Nat.reduceAdd,bv94,pl94_1,st94,ld94,f4,f5,f6,len0,hD.1.cells,hD.1.cok,hg]
  refine⟨((kk _ _ _).trans hE1).put (by omega) _,xv,?_,?_⟩
  ·simp
  ·subst hm
   rw[Nat.gcd_zero_right] at hgcd
   rw[Int.natAbs_natCast,←hgcd]
   exact hA.keep ((Keep.refl _).put hg _)
 ·have hl:0<es.length:=by
   apply Nat.pos_of_ne_zero;intro h0
   exact hm (hz.2 (List.length_eq_zero_iff.1 h0))
  simp -dsimp (maxSteps:=1000000) (disch:=first|omega|(simp only[new_n,put_n];omega)|decide +kernel|(repeat first|rw[new_n]|rw[put_n])) only[wpS,wpT,Nat.reduceEqDiff,f5,f6,hE.1.len sl92]
  refine call (divided_ok hD hE hN hM (by rw[hy];exact hm) l1 l2) ?_
  rintro _ h2 ⟨hE2,q,r,rfl,hq,hr⟩
  rw[hx,hy] at hr
  have hlt:=Nat.mod_lt a (Nat.pos_of_ne_zero hm)
  simp -dsimp (maxSteps:=1000000) (disch:=first|omega|(simp only[new_n,put_n];omega)|decide +kernel|(repeat first|rw[new_n]|rw[put_n])) only[wpS,Nat.reduceEqDiff,f6]
  refine⟨a % m,hlt,yv,r,m,hE1.trans hE2,hB.keep hE2.keep,hr,sb,sb.le (Nat.le_of_lt hlt),?_,by simp[f4],by simp,by simp⟩
  rw[←hgcd,Nat.gcd_comm a m,Nat.gcd_rec m a,Nat.gcd_comm]
theorem wrd_one {h:IH}:Wrd (h.new (.cells [.int .u64 1] 1 none)) (.slice (some ⟨2*h.n,0,none⟩) 1 3) 1 :=
 ⟨[1],⟨built_sl (h:=h) (sz:=1) (m:=1) (cs:=[K64 1]) (by omega) rfl (by omega),fun x hx=>by simp at hx;omega,by simp⟩,.inr (by simp),by simp[B.valD,B.valT]⟩
set_option maxHeartbeats 8000000 in
theorem pparts_ok {h:IH} {v w:Value} {x y:Int} (hv:PLong h v x) (hw:PLong h w y) (sx:SmallI x) (sy:SmallI y) (y0:y≠0) :
  WV Proofs.Tryz.prog (.func (.func 140) #[] #[]) [v,w] h fun r h'=>Ext h h' ∧ ∃q t,r=.tuple #[q,t]∧PLong h' q (x / y)∧PLong h' t (x % y):=by
 obtain⟨s,rfl,hS⟩:=hv
 obtain⟨t,rfl,hT⟩:=hw
 obtain⟨ds,hD,hN,hx⟩:=id hS
 obtain⟨es,hE,hM,hy⟩:=id hT
 have l1:ds.length≤1000000:=small64' hN (by rw[hx];exact sx)
 have l2:es.length≤1000000:=small64' hM (by rw[hy];exact sy)
 refine enter (nt:=47) (rs:=[.cell 4 94,.cell 5 94]) Proofs.Tryz.func140 rfl rfl rfl (by simp) ?_
 simp -dsimp (maxSteps:=1000000) (disch:=first|omega|(simp only[new_n,put_n];omega)|decide +kernel|(repeat first|rw[new_n]|rw[put_n])) only[wpS,Nat.reduceEqDiff,Nat.reduceAdd,zc94,fa94_1,ld92]
 have kk : ∀o1 o2 o3 o4,Ext h ((((h.new o1).new o2).new o3).new o4):=fun o1 o2 o3 o4=>((((Ext.refl h).new _).new _).new _).new _
 refine call (divided_ok (hD.keep (kk _ _ _ _).keep) (hE.keep (kk _ _ _ _).keep) hN hM (by rw[hy];omega) l1 l2) ?_
 rintro _ h1 ⟨hE1,q,r,rfl,⟨qs,hq,hqv⟩,⟨rs,hr,hrn,hrv⟩⟩
 rw[hx,hy] at hqv hrv
 have n1:h.n+4≤h1.n:=hE1.n
 have g0:h1.ext.get h.n=some (.cells [.bool (decide (x<0)),s] 0 none):=by rw[hE1.get _ (by simp<;>omega)];simp (disch:=first|omega|(simp only[new_n,put_n];omega)|(repeat first|rw[new_n]|rw[put_n])) only[get_new_same,get_new_old]
 have g1:h1.ext.get (h.n+1)=some (.cells [.bool (decide (y<0)),t] 0 none):=by rw[hE1.get _ (by simp<;>omega)];simp (disch:=first|omega|(simp only[new_n,put_n];omega)|(repeat first|rw[new_n]|rw[put_n])) only[get_new_same,get_new_old]
 have g2:h1.ext.get (h.n+1+1)=some (.cells ZL 0 none):=by rw[hE1.get _ (by simp<;>omega)];simp (disch:=first|omega|(simp only[new_n,put_n];omega)|(repeat first|rw[new_n]|rw[put_n])) only[get_new_same,get_new_old]
 have g3:h1.ext.get (h.n+1+1+1)=some (.cells ZL 0 none):=by rw[hE1.get _ (by simp<;>omega)];simp (disch:=first|omega|(simp only[new_n,put_n];omega)|(repeat first|rw[new_n]|rw[put_n])) only[get_new_same]
 have x1:Ext h h1:=(kk _ _ _ _).trans hE1
 have eT1:=hE.keep x1.keep
 clear hE1 kk
 have r0:=row_kn g0
 have r1:=row_kn g1
 simp -dsimp (maxSteps:=1000000) (disch:=first|omega|(simp only[new_n,put_n];omega)|decide +kernel|(repeat first|rw[new_n]|rw[put_n])) only[wpS,Nat.reduceEqDiff]
 refine drawn [(8,[6])] (by kernel_rfl) (by kernel_rfl) rfl ?_
 simp -dsimp (maxSteps:=1000000) (disch:=first|omega|(simp only[new_n,put_n];omega)|decide +kernel|(repeat first|rw[new_n]|rw[put_n])) only[wpS,Nat.reduceEqDiff,fa94_0,ld4,bn4,r0,r1,bne_bool]
 refine call (trimmed_ok hq _) ?_
 rintro q2 h2 ⟨hE2,hq2⟩
 have r02:h2.row (2*h.n)=some [.bool (decide (x<0)),s]:=by rw[hE2.row (.inr (by omega))];exact r0
 simp -dsimp (maxSteps:=1000000) (disch:=first|omega|(simp only[new_n,put_n];omega)|decide +kernel|(repeat first|rw[new_n]|rw[put_n])) only[wpS,Nat.reduceEqDiff,fa94_0,ld4,r02]
 refine call (trimmed_ok (hr.keep hE2.keep) _) ?_
 rintro t2 h3 ⟨hE3,ht2⟩
 rw[hqv] at hq2
 rw[hrv] at ht2
 have pa:=parts_a (x:=x) y0
 have pb:=parts_b (x:=x) y0
 have aQ:=sgn_abs (decide (x<0) != decide (y<0)) (x.natAbs / y.natAbs)
 have aR:=sgn_abs (decide (x<0)) (x.natAbs % y.natAbs)
 generalize (if (decide (x<0) != decide (y<0))=true then -((x.natAbs / y.natAbs:Nat):Int) else ((x.natAbs / y.natAbs:Nat):Int))=Q at *
 generalize (if decide (x<0)=true then -((x.natAbs % y.natAbs:Nat):Int) else ((x.natAbs % y.natAbs:Nat):Int))=R at *
 have sQ:SmallI Q:=Small.le sx (by rw[aQ];exact Nat.div_le_self _ _)
 have sR:SmallI R:=Small.le sy (by rw[aR];exact Nat.le_of_lt (Nat.mod_lt _ (by omega)))
 obtain⟨sq,n3,rfl,c3,o3,_,_⟩:=hq2.form
 obtain⟨st,n4,rfl,c4,o4,_,_⟩:=ht2.form
 have x3:Ext h h3:=(x1.trans hE2).trans hE3
 have n2:=hE2.n
 have n3':=hE3.n
 have g2':=(hE3.get _ (by omega)).trans ((hE2.get _ (by omega)).trans g2)
 have g3':=(hE3.get _ (by omega)).trans ((hE2.get _ (by omega)).trans g3)
 have g1':=(hE3.get _ (by omega)).trans ((hE2.get _ (by omega)).trans g1)
 simp -dsimp (maxSteps:=1000000) (disch:=first|omega|(simp only[new_n,put_n];omega)|decide +kernel|(repeat first|rw[new_n]|rw[put_n])) only[wpS,wpT,Nat.reduceEqDiff,Nat.reduceLeDiff,Nat.reduceAdd,st94,o3,o4,g2',g3']
 refine⟨wpSteady_one rfl rfl rfl rfl (steady_load (av:=ptr (2*h.n) 0) (v:=.bool (decide (x<0))) rfl ?_ ?_),?_⟩
 ·simp -dsimp (maxSteps:=1000000) (disch:=first|omega|(simp only[new_n,put_n];omega)|decide +kernel|(repeat first|rw[new_n]|rw[put_n])) only[wpS,ld4,r02]
 ·simp -dsimp (maxSteps:=1000000) (disch:=first|omega|(simp only[new_n,put_n];omega)|decide +kernel|(repeat first|rw[new_n]|rw[put_n])) only[wpS,ld4,r0]
 simp -dsimp (maxSteps:=1000000) (disch:=first|omega|(simp only[new_n,put_n];omega)|decide +kernel|(repeat first|rw[new_n]|rw[put_n])) only[wpS,wpT,Nat.reduceEqDiff,Nat.reduceAdd,fa94_0,ld4]
 obtain⟨h4,hh4⟩ : ∃h4,h4=(h3.put (h.n+1+1) (.cells [.bool (decide (Q<0)),sq] 0 none)).put (h.n+1+1+1) (.cells [.bool (decide (R<0)),st] 0 none):=⟨_,rfl⟩
 have g8:h4.ext.get (h.n+1+1)=some (.cells [.bool (decide (Q<0)),sq] 0 none):=by rw[hh4];simp (disch:=first|omega|(simp only[new_n,put_n];omega)|(repeat first|rw[new_n]|rw[put_n])) only[get_put_same,get_put_old]
 have g9:h4.ext.get (h.n+1+1+1)=some (.cells [.bool (decide (R<0)),st] 0 none):=by rw[hh4];simp (disch:=first|omega|(simp only[new_n,put_n];omega)|(repeat first|rw[new_n]|rw[put_n])) only[get_put_same]
 have g7:h4.ext.get (h.n+1)=some (.cells [.bool (decide (y<0)),t] 0 none):=by rw[hh4];simp (disch:=first|omega|(simp only[new_n,put_n];omega)|(repeat first|rw[new_n]|rw[put_n])) only[get_put_old];exact g1'
 have n5:h4.n=h3.n:=by rw[hh4];rfl
 have k4:Keep h3 h4:=by rw[hh4];exact((Keep.refl h3).put g2' _).put (by rw[get_put_old _ _ (by omega)];exact g3') _
 have x4:Ext h h4:=by rw[hh4];exact(x3.put (by omega) _).put (by omega) _
 have hQ0:=hq2.keep (hE3.keep.trans k4)
 have hR0:=ht2.keep k4
 have eT4:=eT1.keep ((hE2.trans hE3).keep.trans k4)
 rw[←hh4]
 clear hh4 g2' g3' g1' r0 r1 g0 g1 g2 g3
 have r9:=row_kn g9
 have r8:=row_kn g8
 have r7:=row_kn g7
 refine bq_cut (fun fr2 h5 => ∃sq st,Ext h h5∧h5.ext.get (h.n+1+1)=some (.cells [.bool (decide (x / y<0)),sq] 0 none)∧h5.ext.get (h.n+1+1+1)=some (.cells [.bool (decide (x % y<0)),st] 0 none)∧PLong h5 (.agg #[.bool (decide (x / y<0)),sq]) (x / y)∧PLong h5 (.agg #[.bool (decide (x % y<0)),st]) (x % y) ∧
  fget fr2 4=some (ptr (2*(h.n+1+1)) 0)∧fget fr2 5=some (ptr (2*(h.n+1+1+1)) 0)) (fun hb=>?_) (fun hb=>?_) ?_
 ·have hb':R<0:=by simpa using hb
  obtain⟨b1,b2⟩:=pb hb'
  rw[decide_eq_true hb'] at hR0 r9 g9
  simp -dsimp (maxSteps:=1000000) (disch:=first|omega|(simp only[new_n,put_n];omega)|decide +kernel|(repeat first|rw[new_n]|rw[put_n])) only[wpS,wpT,Nat.reduceEqDiff,Nat.reduceLeDiff,Nat.reduceAdd,zc94,fa94_1,ld92,st94,bv94,pl94_1,ld94,r7,r9,List.drop_zero,tk_two,hE.1.cells,hE.1.cok]
  have xA:Ext h ((h4.new (.cells ZL 0 none)).put h4.n (.cells [.bool false,t] 0 none)):=(x4.new _).put (by omega) _
  have xB:Ext h4 ((h4.new (.cells ZL 0 none)).put h4.n (.cells [.bool false,t] 0 none)):=((Ext.refl h4).new _).put (by omega) _
  have hY:PLong ((h4.new (.cells ZL 0 none)).put h4.n (.cells [.bool false,t] 0 none)) (.agg #[.bool false,t]) (y.natAbs:Int):=⟨t,by simp,by rw[Int.natAbs_natCast];exact⟨es,eT4.keep xB.keep,hM,hy⟩⟩
  refine call (pplus_ok (hR0.keep xB.keep) hY sR (small_nat sy)) ?_
  rintro t5 h5 ⟨hE5,ht5⟩
  rw[b2] at ht5
  obtain⟨s5,_,rfl,c5,o5,_,_⟩:=ht5.form
  have n6:=(hE5).n;try simp only[new_n,put_n] at n6
  have x5:=xB.trans hE5
  have k9:=(x5.get _ (by omega)).trans g9
  have k8:=(x5.get _ (by omega)).trans g8
  have k7:=(x5.get _ (by omega)).trans g7
  have rr7:=row_kn k7
  have rr8:=row_kn k8
  simp -dsimp (maxSteps:=1000000) (disch:=first|omega|(simp only[new_n,put_n];omega)|decide +kernel|(repeat first|rw[new_n]|rw[put_n])) only[wpS,wpT,Nat.reduceEqDiff,Nat.reduceLeDiff,Nat.reduceAdd,zc94,fa94_0,ld4,st94,bv94,pl94_1,ld94,bs92,pl94_0,k9,o5,rr7,rr8,List.drop_zero,tk_two]
  obtain⟨h6,hh6⟩ : ∃h6,h6=((((h5.put (h.n+1+1+1) (.cells [.bool (decide (x % y<0)),s5] 0 none)).new (.cells [.int .u64 1] 1 none)).new (.cells ZL 0 none)).put (h5.n+1) (.cells [.bool (!decide (y<0)),.slice (some ⟨2*h5.n,0,none⟩) 1 3] 0 none)):=⟨_,rfl⟩
  have k5:Keep h5 h6:=by rw[hh6];exact((((Keep.refl h5).put k9 _).new _).new _).put (cs:=ZL) (f:=none) (by simp (disch:=first|omega|(simp only[new_n,put_n];omega)|(repeat first|rw[new_n]|rw[put_n])) only[get_new_same]) _
  have y6:Ext h h6:=by rw[hh6];exact(((((xA.trans hE5).put (by omega) _).new _).new _).put (by first|omega|(simp only[new_n,put_n];omega)) _)
  have j9:h6.ext.get (h.n+1+1+1)=some (.cells [.bool (decide (x % y<0)),s5] 0 none):=by rw[hh6];simp (disch:=first|omega|(simp only[new_n,put_n];omega)|(repeat first|rw[new_n]|rw[put_n])) only[get_new_old,get_put_same,get_put_old]
  have j8:h6.ext.get (h.n+1+1)=some (.cells [.bool (decide (Q<0)),sq] 0 none):=by rw[hh6];simp (disch:=first|omega|(simp only[new_n,put_n];omega)|(repeat first|rw[new_n]|rw[put_n])) only[get_new_old,get_put_old];exact k8
  have n7:h6.n=h5.n+2:=by rw[hh6];rfl
  have hOne:PLong h6 (.agg #[.bool (!decide (y<0)),.slice (some ⟨2*h5.n,0,none⟩) 1 3]) (if y<0 then 1 else -1):=by
   refine⟨.slice (some ⟨2*h5.n,0,none⟩) 1 3,?_,?_⟩
   ·by_cases hy0:y<0<;>simp[hy0]<;>rfl
   ·rw[show(if y<0 then (1:Int) else -1).natAbs=1 by split<;>rfl,hh6]
    have w1:=wrd_one (h:=h5.put (h.n+1+1+1) (.cells [.bool (decide (x % y<0)),s5] 0 none))
    exact w1.keep (((Keep.refl _).new _).put (cs:=ZL) (f:=none) (by simp (disch:=first|omega|(simp only[new_n,put_n];omega)|(repeat first|rw[new_n]|rw[put_n])) only[get_new_same]) _)
  have jr8:=row_kn j8
  rw[←hh6]
  have sOne:SmallI (if y<0 then (1:Int) else -1):=by split<;>exact small1
  refine call (pplus_ok (hQ0.keep (x5.keep.trans k5)) hOne sQ sOne) ?_
  rintro t7 h7 ⟨hE7,ht7⟩
  have hqq:Q+(if y<0 then (1:Int) else -1)=x / y:=by
   rw[←b1]
  rw[hqq] at ht7
  obtain⟨s7,_,rfl,c7,o7,_,_⟩:=ht7.form
  have n8:=(hE7).n;try simp only[new_n,put_n] at n8
  have i8:=(hE7.get _ (by omega)).trans j8
  have i9:=(hE7.get _ (by omega)).trans j9
  simp -dsimp (maxSteps:=1000000) (disch:=first|omega|(simp only[new_n,put_n];omega)|decide +kernel|(repeat first|rw[new_n]|rw[put_n])) only[wpS,wpT,Nat.reduceEqDiff,Nat.reduceLeDiff,Nat.reduceAdd,st94,i8,o7]
  have k7':=(Keep.refl h7).put i8 (.cells [.bool (decide (x / y<0)),s7] 0 none)
  refine⟨s7,s5,(y6.trans hE7).put (by omega) _,get_put_same _ _ rfl,by simp (disch:=first|omega|(simp only[new_n,put_n];omega)|(repeat first|rw[new_n]|rw[put_n])) only[get_put_old];exact i9,ht7.keep k7',ht5.keep ((k5.trans hE7.keep).trans k7'),by simp,by simp⟩
 ·have hb' : ¬R<0:=by simpa using hb
  obtain⟨b1,b2⟩:=pa hb'
  simp -dsimp (maxSteps:=1000000) (disch:=first|omega|(simp only[new_n,put_n];omega)|decide +kernel|(repeat first|rw[new_n]|rw[put_n])) only[wpS,wpT]
  subst b1;subst b2
  exact⟨sq,st,x4,g8,g9,hQ0,hR0,by simp,by simp⟩
 rintro fr2 h5 ⟨sq,st,x5,k8,k9,hQ,hR,f4,f5⟩
 have q8:=row_kn k8
 have q9:=row_kn k9
 obtain⟨s8,n8,e8,c8,o8,_,_⟩:=hQ.form
 obtain⟨s9,n9,e9,c9,o9,_,_⟩:=hR.form
 cases e8
 cases e9
 rw[d_seq]
 refine drawn [(1,[3])] (by kernel_rfl) (by kernel_rfl) rfl ?_
 simp -dsimp (maxSteps:=1000000) (disch:=first|omega|(simp only[new_n,put_n];omega)|decide +kernel|(repeat first|rw[new_n]|rw[put_n])) only[wpS,wpT,Nat.reduceEqDiff,Nat.reduceLeDiff,Nat.reduceAdd,st94,ld94,f4,f5,q8,q9,k8,k9,o8,o9,List.drop_zero,tk_two]
 have k5:=(Keep.refl h5).put k8 (.cells [.bool (decide (x / y<0)),sq] 0 none)
 have k3':(h5.put (h.n+1+1) (.cells [.bool (decide (x / y<0)),sq] 0 none)).ext.get (h.n+1+1+1)=some (.cells [.bool (decide (x % y<0)),st] 0 none):=by rw[get_put_old _ _ (by omega)];exact k9
 have k6:=k5.put k3' (.cells [.bool (decide (x % y<0)),st] 0 none)
 refine⟨wpSteady_one rfl rfl rfl rfl (steady_load (av:=ptr (2*(h.n+1+1+1)) 0) (v:=.agg #[.bool (decide (x % y<0)),st]) ?_ ?_ ?_),?_⟩
 ·simp -dsimp (maxSteps:=1000000) (disch:=first|omega|(simp only[new_n,put_n];omega)|decide +kernel|(repeat first|rw[new_n]|rw[put_n])) only[wpS,Nat.reduceEqDiff,f5]
 ·simp -dsimp (maxSteps:=1000000) (disch:=first|omega|(simp only[new_n,put_n];omega)|decide +kernel|(repeat first|rw[new_n]|rw[put_n])) only[wpS,wpT,Nat.reduceLeDiff,Nat.reduceAdd,ld94,q9,List.drop_zero,tk_two]
 ·simp -dsimp (maxSteps:=1000000) (disch:=first|omega|(simp only[new_n,put_n];omega)|decide +kernel|(repeat first|rw[new_n]|rw[put_n])) only[wpS,wpT,Nat.reduceLeDiff,Nat.reduceAdd,ld94,q9,List.drop_zero,tk_two]
 simp -dsimp (maxSteps:=1000000) (disch:=first|omega|(simp only[new_n,put_n];omega)|decide +kernel|(repeat first|rw[new_n]|rw[put_n])) only[wpS,wpT,Nat.reduceEqDiff,Nat.reduceLeDiff,Nat.reduceAdd,ld94,f4,f5,List.drop_zero,tk_two]
 exact⟨(x5.put (by omega) _).put (by omega) _,_,_,rfl,hQ.keep k6,hR.keep k6⟩
end Go.Id
