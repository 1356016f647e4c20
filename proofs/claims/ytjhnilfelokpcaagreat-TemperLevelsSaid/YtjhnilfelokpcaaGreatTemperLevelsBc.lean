/-
  Contracts: the program's long integers: sums, differences, products, quotients, divisors. Contracts: the reference's long integers, ninth part: read as integers.
-/
import Derived.Test.YtjhnilfelokpcaaGreatTemperLevelsAt
import Derived.Test.YtjhnilfelokpcaaGreatTemperLevelsBa
import Derived.Test.YtjhnilfelokpcaaGreatTemperLevelsBb
import Derived.Test.YtjhnilfelokpcaaGreatTemperLevelsAw
set_option linter.unusedVariables false
set_option linter.unusedSimpArgs false
set_option linter.defProp false
set_option linter.deprecated false
namespace Go.Id
open Go
open Go.Proofs.Tryz (prog)
open Nat renaming reduceAdd→zA,reduceEqDiff→zE,reduceLeDiff→zL
set_option maxHeartbeats 16000000
theorem small64' {ds:List Nat} (n:B.Norm ds) (h:Small (B.valD ds)):ds.length≤1000000:=by
 refine n.lenlt (Nat.lt_of_lt_of_le h.lt ?_)
 exact pow_base 4294967296 18446744073709551616 1000000 (by decide)
theorem half64' {ds:List Nat} (n:B.Norm ds) (h:Half (B.valD ds)):ds.length≤500000:=by
 refine n.lenlt (Nat.lt_of_lt_of_le h.lt ?_)
 exact pow_base 4294967296 18446744073709551616 500000 (by decide)
abbrev ZL:List Value:=[.bool false,.slice none 0 0]
theorem pturned_ok {h:IH} {v:Value} {z:Int} (hv:PLong h v z):WV prog (.func (.func 246) #[] #[]) [v] h fun r h'=>Ext h h'∧PLong h' r (-z):=by
 obtain⟨s,rfl,ds,hD,hN,hx⟩:=hv
 refine enter (nt:=9) (rs:=[.cell 2 123]) Proofs.Tryz.func246 rfl rfl rfl (by simp) ?_
 simp -dsimp (disch:=try exact dx) only[wpS,zE,zc123,fa123_0,ld4,fa123_1,ld121]
 refine call (trimmed_ok (hD.keep (((Keep.refl h).new _).new _)) _) ?_
 rintro r h1 ⟨hE,h2⟩
 have hz:(if (!decide (z<0))=true then -(B.valD ds:Int) else B.valD ds) = -z:=by
  by_cases h0:z<0<;>simp[h0]<;>omega
 rw[hz] at h2
 obtain⟨s1,n1,rfl,c1,o1,_,_⟩:=h2.form
 have n1:=(hE).n;try simp only[new_n] at n1
 have hg:h1.ext.get (h.n+1)=some (.cells ZL 0 none):=by rw[hE.get _ (by simp)];simp (disch:=try exact dx) only[get_new_same]
 simp -dsimp (disch:=try exact dx) only[wpS,wpT,zE,zL,zA,st123,ld123,hg,o1]
 exact⟨((((Ext.refl h).new _).new _).trans hE).put (by omega) _,h2.keep ((Keep.refl _).put hg _)⟩
theorem pplus_ok {h:IH} {v w:Value} {x y:Int} (hv:PLong h v x) (hw:PLong h w y) (sx:SmallI x) (sy:SmallI y) :
  WV prog (.func (.func 201) #[] #[]) [v,w] h fun r h'=>Ext h h'∧PLong h' r (x+y):=by
 obtain⟨s,rfl,a,ha,na,hx⟩:=hv
 obtain⟨t,rfl,b,hb,nb,hy⟩:=hw
 have la:a.length≤1000000:=small64' na (by rw[hx];exact sx)
 have lb:b.length≤1000000:=small64' nb (by rw[hy];exact sy)
 refine enter (nt:=34) (rs:=[.cell 4 123]) Proofs.Tryz.func201 rfl rfl rfl (by simp) ?_
 simp -dsimp (disch:=try exact dx) only[wpS,zE,zA,zc123,fa123_0,ld4,be4]
 have ee : ∀o1 o2 o3,Ext h (((h.new o1).new o2).new o3):=fun o1 o2 o3=>(((Ext.refl h).new _).new _).new _
 refine bq_intro (fun hc=>?_) (fun hc=>?_)
 ·have hc:(x<0↔y<0):=by simpa using hc
  simp -dsimp (disch:=try exact dx) only[wpS]
  refine drawn [(1,[7])] (by kernel_rfl) (by kernel_rfl) rfl ?_
  simp -dsimp (disch:=try exact dx) only[wpS,zE,fa123_0,ld4,fa123_1,ld121]
  refine call (added_ok (ha.keep (ee _ _ _).keep) (hb.keep (ee _ _ _).keep) (by omega) (by omega)) ?_
  rintro r h1 ⟨hE,os,hD,hval⟩
  simp -dsimp (disch:=try exact dx) only[wpS,zE]
  refine call (trimmed_ok hD _) ?_
  rintro r2 h2 ⟨hE2,hr⟩
  have hz:(if decide (x<0)=true then -(B.valD os:Int) else B.valD os)=x+y:=by
   by_cases h0:x<0<;>simp[h0]<;>omega
  rw[hz] at hr
  obtain⟨s1,n1,rfl,c1,o1,_,_⟩:=hr.form
  have m1:=(hE).n;try simp only[new_n] at m1
  have m2:=(hE2).n;try simp only[new_n,put_n] at m2
  have hg:h2.ext.get (h.n+1+1)=some (.cells ZL 0 none):=by rw[hE2.get _ (by omega),hE.get _ (by simp)];simp (disch:=try exact dx) only[get_new_same]
  have hr0:h1.row (2*h.n)=some [.bool (decide (x<0)),s]:=by
   rw[hE.row (by simp<;>omega)];simp -dsimp (disch:=try exact dx) only[wpS]
  simp -dsimp (disch:=try exact dx) only[wpS,wpT,zE,zL,zA,st123,hg,o1]
  refine⟨wpSteady_one rfl rfl rfl rfl (steady_load (av:=ptr (2*h.n) 0) (v:=.bool (decide (x<0))) rfl ?_ ?_),?_⟩
  ·simp -dsimp (disch:=try exact dx) only[wpS,ld4]
  ·simp -dsimp (disch:=try exact dx) only[wpS,ld4,hr0]
  ·simp -dsimp (disch:=try exact dx) only[wpS,wpT,zE,zL,zA,ld123]
   exact⟨(((ee _ _ _).trans hE).trans hE2).put (by omega) _,hr.keep ((Keep.refl _).put hg _)⟩
 ·have hc : ¬(x<0↔y<0):=by simpa using hc
  simp -dsimp (disch:=try exact dx) only[wpS,zE,fa123_1,ld121]
  refine call (compared_ok (ha.keep (ee _ _ _).keep) (hb.keep (ee _ _ _).keep) na nb) ?_
  rintro r h1 ⟨rfl,c,rfl,hc1,hc2,hc3,hc4⟩
  simp -dsimp (disch:=try exact dx) only[wpS,zE]
  refine bq_cut (fun fr2 h4 => ∃(p q:Int) (sp sq:Value) (ps qs:List Nat),Ext h h4∧h.n+3≤h4.n∧h4.ext.get h.n=some (.cells [.bool (decide (p<0)),sp] 0 none)∧h4.ext.get (h.n+1)=some (.cells [.bool (decide (q<0)),sq] 0 none)∧h4.ext.get (h.n+1+1)=some (.cells ZL 0 none) ∧
   WrdU h4 sp ps∧WrdU h4 sq qs∧B.Norm ps∧B.Norm qs∧B.valD ps=p.natAbs∧B.valD qs=q.natAbs∧q.natAbs≤p.natAbs∧p+q=x+y ∧ ¬(p<0↔q<0)∧fget fr2 2=some (ptr (2*h.n) 0)∧fget fr2 3=some (ptr (2*(h.n+1)) 0)∧fget fr2 4=some (ptr (2*(h.n+1+1)) 0)) (fun hc5=>?_) (fun hc5=>?_) ?_
  ·simp only[decide_eq_true_eq] at hc5
   simp -dsimp (disch:=try exact dx) only[wpS,wpT,zE,zL,zA,st123,ld123,List.drop_zero,tk_two,ha.1.cok,hb.1.cok]
   have g0:(((h.new (.cells [.bool (decide (x<0)),s] 0 none)).new (.cells [.bool (decide (y<0)),t] 0 none)).new (.cells [.bool false,.slice none 0 0] 0 none)).ext.get h.n=some (.cells [.bool (decide (x<0)),s] 0 none):=by simp (disch:=try exact dx) only[get_new_same,get_new_old]
   have g1:((((h.new (.cells [.bool (decide (x<0)),s] 0 none)).new (.cells [.bool (decide (y<0)),t] 0 none)).new (.cells [.bool false,.slice none 0 0] 0 none)).put h.n (.cells [.bool (decide (y<0)),t] 0 none)).ext.get (h.n+1)=some (.cells [.bool (decide (y<0)),t] 0 none):=by simp (disch:=try exact dx) only[get_new_same,get_new_old,get_put_old]
   have kp:=((ee _ _ _).keep.put g0 (.cells [.bool (decide (y<0)),t] 0 none)).put g1 (.cells [.bool (decide (x<0)),s] 0 none)
   refine⟨y,x,t,s,b,a,((ee _ _ _).put (Nat.le_refl _) _).put (by omega) _,by simp<;>omega,by simp (disch:=try exact dx) only[get_put_same,get_put_old],by simp (disch:=try exact dx) only[get_put_same],by simp (disch:=try exact dx) only[get_new_same,get_put_old],hb.keep kp,ha.keep kp,nb,na,hy,hx,by omega,by omega,by omega,by simp,by simp,by simp⟩
  ·simp only[decide_eq_false_iff_not] at hc5
   simp -dsimp (disch:=try exact dx) only[wpS,wpT]
   exact⟨x,y,s,t,a,b,ee _ _ _,by simp<;>omega,by simp (disch:=try exact dx) only[get_new_same,get_new_old],by simp (disch:=try exact dx) only[get_new_same,get_new_old],by simp (disch:=try exact dx) only[get_new_same],ha.keep (ee _ _ _).keep,hb.keep (ee _ _ _).keep,na,nb,hx,hy,by omega,rfl,hc,by simp,by simp,by simp⟩
  rintro fr h4 ⟨p,q,sp,sq,ps,qs,hE4,hn4,g0,g1,g2,hp,hq,np,nq,vp,vq,hle,hsum,hsg,f2,f3,f4⟩
  have r0:=row_kn g0
  have r1:=row_kn g1
  rw[d_seq]
  refine drawn [(1,[7])] (by kernel_rfl) (by kernel_rfl) rfl ?_
  simp -dsimp (disch:=try exact dx) only[wpS,zE,fa123_0,ld4,fa123_1,ld121,f2,f3,r0,r1]
  refine call (taken_ok hp hq nq (by omega)) ?_
  rintro r h5 ⟨hE5,os,rfl,hD,hval⟩
  simp -dsimp (disch:=try exact dx) only[wpS,zE]
  refine call (trimmed_ok hD _) ?_
  rintro r2 h6 ⟨hE6,hr⟩
  have hz:(if decide (p<0)=true then -(B.valD os:Int) else B.valD os)=x+y:=by
   by_cases h0:p<0<;>simp[h0]<;>omega
  rw[hz] at hr
  obtain⟨s1,n1,rfl,c1,o1,_,_⟩:=hr.form
  have m1:=(hE5).n;try simp only[new_n,put_n] at m1
  have m2:=(hE6).n;try simp only[new_n,put_n] at m2
  have hg:h6.ext.get (h.n+1+1)=some (.cells ZL 0 none):=by rw[hE6.get _ (by omega),hE5.get _ (by omega)];exact g2
  have hr0:h5.row (2*h.n)=some [.bool (decide (p<0)),sp]:=row_kn ((hE5.get _ (by omega)).trans g0)
  simp -dsimp (disch:=try exact dx) only[wpS,wpT,zE,zL,zA,st123,f4,hg,o1]
  refine⟨wpSteady_one rfl rfl rfl rfl (steady_load (av:=ptr (2*h.n) 0) (v:=.bool (decide (p<0))) ?_ ?_ ?_),?_⟩
  ·simp -dsimp (disch:=try exact dx) only[wpS]
  ·simp -dsimp (disch:=try exact dx) only[wpS,ld4,r0]
  ·simp -dsimp (disch:=try exact dx) only[wpS,ld4,hr0]
  ·simp -dsimp (disch:=try exact dx) only[wpS,wpT,zE,zL,zA,ld123,f4]
   exact⟨((hE4.trans hE5).trans hE6).put (by omega) _,hr.keep ((Keep.refl _).put hg _)⟩
theorem pminus_ok {h:IH} {v w:Value} {x y:Int} (hv:PLong h v x) (hw:PLong h w y) (sx:SmallI x) (sy:SmallI y) :
  WV prog (.func (.func 243) #[] #[]) [v,w] h fun r h'=>Ext h h'∧PLong h' r (x - y):=by
 obtain⟨s,n1,rfl,c1,o1,l1,z1⟩:=hv.form
 obtain⟨t,n2,rfl,c2,o2,l2,z2⟩:=hw.form
 refine enter (nt:=9) (rs:=[.cell 4 123]) Proofs.Tryz.func243 rfl rfl rfl (by simp) ?_
 simp -dsimp (disch:=try exact dx) only[wpS,zE,zA,zc123]
 have ee : ∀o1 o2 o3,Ext h (((h.new o1).new o2).new o3):=fun o1 o2 o3=>(((Ext.refl h).new _).new _).new _
 refine drawn [(0,[3])] (by kernel_rfl) (by kernel_rfl) rfl ?_
 simp -dsimp (disch:=try exact dx) only[wpS,wpT,zE,zL,zA,ld123]
 refine call (pturned_ok (hw.keep (ee _ _ _).keep)) ?_
 rintro r h1 ⟨hE,hT⟩
 simp -dsimp (disch:=try exact dx) only[wpS,zE]
 refine call (pplus_ok (hv.keep ((ee _ _ _).trans hE).keep) hT sx (by rw[SmallI,Int.natAbs_neg];exact sy)) ?_
 rintro r2 h2 ⟨hE2,hr⟩
 obtain⟨s1,n3,rfl,c3,o3,l3,z3⟩:=hr.form
 have m1:=(hE).n;try simp only[new_n] at m1
 have m2:=(hE2).n;try simp only[new_n,put_n] at m2
 have hg:h2.ext.get (h.n+1+1)=some (.cells ZL 0 none):=by rw[hE2.get _ (by omega),hE.get _ (by simp)];simp (disch:=try exact dx) only[get_new_same]
 have hr0:h1.row (2*h.n)=some [.bool (decide (x<0)),s]:=by
  rw[hE.row (by simp<;>omega)];simp -dsimp (disch:=try exact dx) only[wpS]
 simp -dsimp (disch:=try exact dx) only[wpS,wpT,zE,zL,zA,st123,hg,o3]
 refine⟨wpSteady_one rfl rfl rfl rfl (steady_load (av:=ptr (2*h.n) 0) (v:=.agg #[.bool (decide (x<0)),s]) rfl ?_ ?_),?_⟩
 ·simp -dsimp (disch:=try exact dx) only[wpS,wpT,zL,zA,ld123]
  rfl
 ·simp -dsimp (disch:=try exact dx) only[wpS,wpT,zL,zA,ld123,hr0]
  rfl
 ·simp -dsimp (disch:=try exact dx) only[wpS,wpT,zE,zL,zA,ld123]
  refine⟨(((ee _ _ _).trans hE).trans hE2).put (by omega) _,?_⟩
  have:x + -y=x - y:=by omega
  rw[this] at hr ⊢
  exact hr.keep ((Keep.refl _).put hg _)
theorem ptimes_ok {h:IH} {v w:Value} {x y:Int} (hv:PLong h v x) (hw:PLong h w y) (sx:HalfI x) (sy:HalfI y) :
  WV prog (.func (.func 67) #[] #[]) [v,w] h fun r h'=>Ext h h'∧PLong h' r (x*y):=by
 obtain⟨s,rfl,ds,hD,hN,hx⟩:=hv
 obtain⟨t,rfl,es,hE,hM,hy⟩:=hw
 have l1:ds.length≤500000:=half64' hN (by rw[hx];exact sx)
 have l2:es.length≤500000:=half64' hM (by rw[hy];exact sy)
 refine enter (nt:=16) (rs:=[.cell 4 123]) Proofs.Tryz.func67 rfl rfl rfl (by simp) ?_
 simp -dsimp (disch:=try exact dx) only[wpS,zE,zA,zc123]
 have kk : ∀o1 o2 o3,Ext h (((h.new o1).new o2).new o3):=fun o1 o2 o3=>(((Ext.refl h).new _).new _).new _
 refine drawn [(1,[10]),(3,[10])] (by kernel_rfl) (by kernel_rfl) rfl ?_
 simp -dsimp (disch:=try exact dx) only[wpS,zE,fa123_0,ld4,bn4,fa123_1,ld121,bne_bool]
 refine call (multiplied_ok (hD.keep (kk _ _ _).keep) (hE.keep (kk _ _ _).keep) (by omega)) ?_
 rintro r h1 ⟨hE1,os,hO,hOv⟩
 simp -dsimp (disch:=try exact dx) only[wpS,zE]
 refine call (trimmed_ok hO _) ?_
 rintro r2 h2 ⟨hE2,hr⟩
 rw[hOv,hx,hy,sign_mul] at hr
 obtain⟨s3,n3,rfl,c3,o3,_,_⟩:=hr.form
 have m1:=(hE1).n;try simp only[new_n] at m1
 have m2:=(hE2).n;try simp only[new_n,put_n] at m2
 have hg:h2.ext.get (h.n+1+1)=some (.cells ZL 0 none):=by
  rw[hE2.get _ (by omega),hE1.get _ (by simp)];exact get_new_same _ _ rfl
 have r0:h1.row (2*h.n)=some [.bool (decide (x<0)),s]:=by rw[hE1.row (by simp<;>omega)];simp -dsimp (disch:=try exact dx) only[wpS]
 have r1:h1.row (2*(h.n+1))=some [.bool (decide (y<0)),t]:=by rw[hE1.row (by simp<;>omega)];simp -dsimp (disch:=try exact dx) only[wpS]
 simp -dsimp (disch:=try exact dx) only[wpS,wpT,zE,zL,zA,st123,hg,o3]
 refine⟨wpSteady_cons (wpSteady_one rfl rfl rfl rfl (steady_load (av:=ptr (2*h.n) 0) (v:=.bool (decide (x<0))) rfl ?_ ?_)) (wpSteady_one rfl rfl rfl rfl (steady_load (av:=ptr (2*(h.n+1)) 0) (v:=.bool (decide (y<0))) rfl ?_ ?_)),?_⟩
 ·simp -dsimp (disch:=try exact dx) only[wpS,ld4]
 ·simp -dsimp (disch:=try exact dx) only[wpS,ld4,r0]
 ·simp -dsimp (disch:=try exact dx) only[wpS,ld4]
 ·simp -dsimp (disch:=try exact dx) only[wpS,ld4,r1]
 simp -dsimp (disch:=try exact dx) only[wpS,wpT,zE,zL,zA,ld123]
 exact⟨(((kk _ _ _).trans hE1).trans hE2).put (by omega) _,hr.keep ((Keep.refl _).put hg _)⟩
theorem pside_ok {h:IH} {v:Value} {z:Int} (hv:PLong h v z):WV prog (.func (.func 115) #[] #[]) [v] h fun r h'=>Ext h h'∧r=KI (if z<0 then -1 else if z=0 then 0 else 1):=by
 obtain⟨s,n1,rfl,c1,o1,l1,z1⟩:=hv.form
 refine enter (nt:=11) (rs:=[.tmp 2]) Proofs.Tryz.func115 rfl rfl rfl (by simp) ?_
 simp -dsimp (disch:=try exact dx) only[wpS,zE,fa123_0,ld4]
 refine bq_intro ?_ ?_<;>intro hc<;>simp only[decide_eq_true_eq,decide_eq_false_iff_not] at hc
 ·simp -dsimp (disch:=try exact dx) only[wpS,wpT,zE]
  refine⟨(Ext.refl h).new _,?_⟩
  rw[if_pos hc]
 ·simp -dsimp (disch:=try exact dx) only[wpS,wpT,zE,fa123_1,ld121,l1 sl121]
  refine bq_intro ?_ ?_<;>intro hc2<;>simp only[beq_iff_eq,beq_eq_false_iff_ne,ne_eq] at hc2
  ·simp -dsimp (disch:=try exact dx) only[wpS,wpT,zE]
   refine⟨(Ext.refl h).new _,?_⟩
   rw[if_neg (by omega),if_pos (by omega)]
  ·simp -dsimp (disch:=try exact dx) only[wpS,wpT]
   refine⟨(Ext.refl h).new _,?_⟩
   rw[if_neg (by omega),if_neg (by omega)]
theorem pcmp_ok {h:IH} {v w:Value} {x y:Int} (hv:PLong h v x) (hw:PLong h w y) (sx:SmallI x) (sy:SmallI y) :
  WV prog (.func (.func 196) #[] #[]) [v,w] h fun r h'=>Ext h h'∧r=KI (if x<y then -1 else if x=y then 0 else 1):=by
 obtain⟨s,n1,rfl,c1,o1,l1,z1⟩:=hv.form
 obtain⟨t,n2,rfl,c2,o2,l2,z2⟩:=hw.form
 refine enter (nt:=9) (rs:=[.tmp 4]) Proofs.Tryz.func196 rfl rfl rfl (by simp) ?_
 simp -dsimp (disch:=try exact dx) only[wpS,wpT,zE,zL,zA,ld123]
 have e2 : ∀o1 o2,Ext h ((h.new o1).new o2):=fun o1 o2=>((Ext.refl h).new _).new _
 refine call (pminus_ok (hv.keep (e2 _ _).keep) (hw.keep (e2 _ _).keep) sx sy) ?_
 rintro r h1 ⟨hE,hr⟩
 simp -dsimp (disch:=try exact dx) only[wpS,zE]
 refine call (pside_ok hr) ?_
 rintro _ h2 ⟨hE2,rfl⟩
 simp -dsimp (disch:=try exact dx) only[wpS,zE]
 refine⟨((e2 _ _).trans hE).trans hE2,?_⟩
 congr 1
 split<;>split<;>(try split)<;>(try split)<;>omega
end Go.Id

namespace Go.Id
open Go
end Go.Id

namespace Go.Id
open Go
open Nat renaming reduceAdd→zA,reduceEqDiff→zE,reduceLeDiff→zL
theorem wdC_map (n:Nat):wdC n=((List.range 8).map fun i=>(wrd n i:Int)).map (Value.int .u64):=by simp[wdC]
theorem wrd_inj {n m:Nat} (hn:n<W8) (hm:m<W8) (h : ∀i,i<8→wrd n i=wrd m i):n=m:=by
 have key : ∀i,i≤8→n % 18446744073709551616 ^ i=m % 18446744073709551616 ^ i:=by
  intro i
  induction i with
  | zero=>intro _;rw[Nat.pow_zero,Nat.mod_one,Nat.mod_one]
  | succ i ih=>intro hi;rw[mod_wrd,mod_wrd,ih (by omega),h i (by omega)]
 have:=key 8 (Nat.le_refl _)
 rw[←W8_eq] at this
 rwa [Nat.mod_eq_of_lt hn,Nat.mod_eq_of_lt hm] at this
theorem wd_dec {n m:Nat} (hn:n<W8) (hm:m<W8):decide (((List.range 8).map fun i=>(wrd n i:Int))=((List.range 8).map fun i=>(wrd m i:Int)))=decide (n=m):=by
 rw[Bool.eq_iff_iff];simp only[decide_eq_true_eq]
 constructor
 ·intro h
  refine wrd_inj hn hm fun i hi=>?_
  have:=congrArg (fun l=>l[i]?) h
  simp[hi] at this
  omega
 ·rintro rfl;rfl
theorem wd_eql {n m:Nat} (hn:n<W8) (hm:m<W8) (ox oy:Operand):binop Proofs.Tryz.prog .eql 44 ox oy (.agg (wdC n).toArray) (.agg (wdC m).toArray)=some (.bool (decide (n=m))):=by
 rw[wdC_map,wdC_map,binop_eql_arr u44 u42 sz42 eg44 _ _ _ _ (by simp) (by simp),wd_dec hn hm]
theorem wideN_nn {n:Int} (h:0≤n):wideN n=n.toNat:=by simp[wideN,h]
theorem wrd_int {n:Int} (hn:In64 n) (i:Nat) (hi:i<8):(wrd (wideN n) i:Int)=if i=0 then n % 18446744073709551616 else if n<0 then 18446744073709551615 else 0:=by
 by_cases h0:0≤n
 ·rw[wideN,if_pos h0]
  by_cases hz:i=0
  ·subst hz
   rw[if_pos rfl,wrd,Nat.pow_zero,Nat.div_one];omega
  ·rw[if_neg hz,if_neg (by omega),wrd_high (i:=1) (by omega) (by omega)];rfl
 ·rw[wideN,if_neg h0]
  obtain⟨u,hu⟩ : ∃u:Nat,u=n.natAbs:=⟨_,rfl⟩
  rw[←hu]
  have e:W8 - u=(18446744073709551616 - u)+18446744073709551616*(18446744073709551616 ^ 7 - 1):=by
   rw[W8_eq];omega
  by_cases hz:i=0
  ·subst hz
   rw[if_pos rfl,wrd,Nat.pow_zero,Nat.div_one,e,Nat.add_mul_mod_self_left];omega
  ·rw[if_neg hz,if_pos (by omega)]
   obtain⟨k,rfl⟩ : ∃k,i=k+1:=⟨i - 1,by omega⟩
   have e3:((18446744073709551616 - u)+18446744073709551616*(18446744073709551616 ^ 7 - 1)) / 18446744073709551616=18446744073709551616 ^ 7 - 1:=by
    rw[Nat.add_mul_div_left _ _ (by omega),Nat.div_eq_of_lt (by omega),Nat.zero_add]
   rw[wrd,Nat.pow_succ',←Nat.div_div_eq_div_mul,e,e3]
   have hk:k<7:=by omega
   have hk2:k=0∨k=1∨k=2∨k=3∨k=4∨k=5∨k=6:=by omega
   rcases hk2 with rfl|rfl|rfl|rfl|rfl|rfl|rfl<;>rfl
def wfill (w0:Int) (i:Nat):List Value:=(List.range 8).map fun j=>.int .u64 (if j=0 then w0 else if j<i then 18446744073709551615 else 0)
theorem wfill_len (w0:Int) (i:Nat):(wfill w0 i).length=8:=by simp[wfill]
theorem wfill_one (w0:Int):wfill w0 1 = [.int .u64 w0,.int .u64 0,.int .u64 0,.int .u64 0,.int .u64 0,.int .u64 0,.int .u64 0,.int .u64 0]:=by
 simp[wfill,List.range_succ]
theorem wfill_set (w0:Int) {i:Nat} (h0:0<i) (hi:i<8):(wfill w0 i).set i (.int .u64 18446744073709551615)=wfill w0 (i+1):=by
 apply List.ext_getElem?
 intro j
 rw[List.getElem?_set,wfill_len]
 by_cases hij:i=j
 ·subst hij
  rw[if_pos rfl,if_pos hi]
  simp[wfill,hi,show ¬i=0 by omega]
 ·rw[if_neg hij]
  by_cases hj:j<8
  ·simp only[wfill,List.getElem?_map,List.getElem?_range hj,Option.map_some]
   by_cases hz:j=0
   ·simp[hz]
   ·by_cases hlt:j<i
    ·simp[hz,hlt,show j<i+1 by omega]
    ·simp[hz,hlt,show ¬j<i+1 by omega]
  ·rw[List.getElem?_eq_none (by rw[wfill_len];omega),List.getElem?_eq_none (by rw[wfill_len];omega)]
theorem wfill_neg {n:Int} (hn:In64 n) (h0:n<0):wfill (n % 18446744073709551616) 8=wdC (wideN n):=by
 apply List.ext_getElem?
 intro j
 by_cases hj:j<8
 ·rw[wdC_get _ _ hj]
  simp only[wfill,List.getElem?_map,List.getElem?_range hj,Option.map_some,K64,wrd_int hn j hj]
  simp[h0,hj]
 ·rw[List.getElem?_eq_none (by rw[wfill_len];omega),List.getElem?_eq_none (by rw[wdC_len];omega)]
theorem wfill_pos {n:Int} (hn:In64 n) (h0 : ¬n<0):wfill (n % 18446744073709551616) 1=wdC (wideN n):=by
 apply List.ext_getElem?
 intro j
 by_cases hj:j<8
 ·rw[wdC_get _ _ hj]
  simp only[wfill,List.getElem?_map,List.getElem?_range hj,Option.map_some,K64,wrd_int hn j hj]
  by_cases hz:j=0
  ·simp[hz]
  ·simp[h0,hz]
 ·rw[List.getElem?_eq_none (by rw[wfill_len];omega),List.getElem?_eq_none (by rw[wdC_len];omega)]
set_option maxRecDepth 100000 in
theorem wideOf_ok {h:IH} (n:Int) (hn:In64 n):WV Proofs.Tryz.prog (.func (.func 132) #[] #[]) [KI n] h fun r h'=>Ext h h'∧r=wideV n:=by
 have hw:IntKind.u64.wrap n=n % 18446744073709551616:=wrapU n
 have hE : ∀a b c,Ext h (((h.new a).new b).put (h.n+1) c):=fun a b c=>(((Ext.refl h).new _).new _).put (by omega) _
 have fin : ∀h1:IH,Ext h h1→h.n+1<h1.n→h1.ext.get (h.n+1)=some (.cells (wdC (wideN n)) 0 none)→h1.ext.get h.n=some (.cells [ZW,ZW,ZW,ZW,ZW,ZW,ZW,ZW] 0 none)→True:=fun _ _ _ _ _=>trivial
 refine enter (nt:=17) (rs:=[.cell 2 44]) Proofs.Tryz.func132 rfl rfl rfl (by simp) ?_
 simp -dsimp (disch:=try exact dx) only[wpR]
 rw[d_seq]
 simp -dsimp (disch:=try exact dx) only[wpR,zc44]
 rw[d_seq]
 simp -dsimp (disch:=try exact dx) only[wpR,wpT,zE,zL,zA,zc44,cv3_42,bv44,pl44_0,st44,hw]
 rw[d_seq]
 refine cut (fun fr2 h2=>Ext h h2∧fget fr2 2=some (ptr (2*h.n) 0)∧fget fr2 3=some (ptr (2*(h.n+1)) 0)∧h.n+1<h2.n∧h2.ext.get (h.n+1)=some (.cells (wdC (wideN n)) 0 none)∧h2.ext.get h.n=some (.cells [ZW,ZW,ZW,ZW,ZW,ZW,ZW,ZW] 0 none)) ?_ ?_
 ·by_cases h0:n<0
  ·simp -dsimp (disch:=try exact dx) only[wpS,zE,dec_lt_t h0]
   refine loop (fun m fr h2 => ∃i:Nat,i+m=8∧0<i∧fget fr 2=some (ptr (2*h.n) 0)∧fget fr 3=some (ptr (2*(h.n+1)) 0)∧fget fr 4=some (KN i)∧Ext h h2∧h.n+1<h2.n∧h2.ext.get (h.n+1)=some (.cells (wfill (n % 18446744073709551616) i) 0 none)∧h2.ext.get h.n=some (.cells [ZW,ZW,ZW,ZW,ZW,ZW,ZW,ZW] 0 none)) 7 ⟨1,by simp,by simp,by simp,by simp,by simp,hE _ _ _,by simp,?_,?_⟩ ?_
   ·rw[wfill_one];exact get_put_same _ _ rfl
   ·simp -dsimp (disch:=try exact dx) only[wpS]
   ·rintro m fr h2 ⟨i,him,hi0,f2,f3,f4,hE2,hlt,hg1,hg0⟩
    simp -dsimp (disch:=try exact dx) only[wpS,zE,f4]
    refine bq_intro ?_ ?_<;>intro hc<;>simp only[decide_eq_true_eq,decide_eq_false_iff_not] at hc
    ·have hi:i<8:=by omega
     have hsp:IH.splice (wfill (n % 18446744073709551616) i) i [.int .u64 18446744073709551615]=wfill (n % 18446744073709551616) (i+1):=by
      rw[splice_set (by rw[wfill_len];exact hi),wfill_set _ hi0 hi]
     simp -dsimp (disch:=try exact dx) only[wpS,wpT,zE,zL,ar44,st42,f3,f4,ar44,hg1,wfill_len,hsp]
     refine⟨m - 1,by omega,i+1,by omega,by omega,by simp[f2],by simp[f3],by simp,hE2.put (by omega) _,by simpa using hlt,get_put_same _ _ rfl,?_⟩
     rw[get_put_old _ _ (by omega)];exact hg0
    ·obtain rfl:i=8:=by omega
     simp -dsimp (disch:=try exact dx) only[wpS,wpT]
     exact⟨hE2,by simp[f2],by simp[f3],hlt,by rw[hg1,wfill_neg hn h0],hg0⟩
  ·simp -dsimp (disch:=try exact dx) only[wpS,zE,dec_lt_f h0]
   refine⟨hE _ _ _,by simp,by simp,by simp,?_,?_⟩
   ·rw[←wfill_pos hn h0,wfill_one];exact get_put_same _ _ rfl
   ·simp -dsimp (disch:=try exact dx) only[wpS]
 ·rintro fr2 h2 ⟨hE2,f2,f3,hlt,hg1,hg0⟩
  have hrow:h2.row (2*(h.n+1))=some (wdC (wideN n)):=by rw[row_even];exact cells_of hg1
  have hspl:IH.splice [ZW,ZW,ZW,ZW,ZW,ZW,ZW,ZW] 0 (wdC (wideN n))=wdC (wideN n):=splice_all (by rw[wdC_len];rfl)
  simp -dsimp (disch:=try exact dx) only[wpS,wpT,zE,zL,zA,st44,ld44,f2,f3,hrow,hg0,wdC_len,wd_take,wdC_all,hspl]
  exact⟨hE2.put (by omega) _,rfl⟩
end Go.Id

namespace Go.Id
open Go
def wds (n:Nat):List Nat:=(List.range 8).map (wrd n)
theorem wds_len (n:Nat):(wds n).length=8:=by simp[wds]
theorem wds_dig (n:Nat):B.Digs (wds n):=fun d hd=>by
 simp only[wds,List.mem_map] at hd
 obtain⟨i,_,rfl⟩:=hd
 exact wrd_lt _ _
theorem wdC_wds (n:Nat):wdC n=(wds n).map K64:=by simp[wdC,wds]
theorem wds_get (n:Nat) {i:Nat} (hi:i<8):(wds n).getD i 0=wrd n i:=by
 rw[List.getD_eq_getElem?_getD];simp[wds,hi]
theorem wds_valT (n:Nat) : ∀i,i≤8→B.valT (wds n) i=n % 18446744073709551616 ^ i
 | 0,_=>by simp[B.valT,Nat.mod_one]
 | i+1,h=>by
  rw[B.valT,wds_valT n i (by omega),wds_get n (by omega),wrd,Nat.pow_succ,Nat.mod_mul,Nat.mul_comm]
theorem W8_pw:W8=18446744073709551616 ^ 8:=by unfold W8;rfl
theorem H8_two:H8+H8=W8:=by unfold W8 H8;rfl
theorem H8_pos:0<H8:=by unfold H8;decide
theorem wds_val {n:Nat} (h:n<W8):B.valD (wds n)=n:=by
 rw[B.valD,wds_len,wds_valT n 8 (Nat.le_refl _),←W8_pw,Nat.mod_eq_of_lt h]
theorem wds_of {ds:List Nat} (hl:ds.length=8) (hd:B.Digs ds):wds (B.valD ds)=ds:=by
 apply List.ext_getElem (by rw[wds_len,hl])
 intro i h1 h2
 rw[wds_len] at h1
 have e1:=wds_get (B.valD ds) h1
 have e2:=B.digit_eq hd i
 rw[wrd,←e2] at e1
 rw[List.getD_eq_getElem?_getD,List.getD_eq_getElem?_getD,List.getElem?_eq_getElem (by rw[wds_len];exact h1),List.getElem?_eq_getElem h2] at e1
 simpa using e1
theorem val_lt8 {ds:List Nat} (hl:ds.length=8) (hd:B.Digs ds):B.valD ds<W8:=by
 have:=B.valD_lt hd
 rwa [hl,←W8_pw] at this
theorem cells8 (n:Nat):(wdV n).cells.toList=wdC n:=rfl
set_option maxHeartbeats 2000000 in
theorem sizeMinus_ok {h:IH} (a b:Nat) (ha:a<W8) (hb:b<W8):WV Proofs.Tryz.prog (.func (.func 207) #[] #[]) [wdV a,wdV b] h fun r h'=>Ext h h' ∧ ∃m bor,r=.tuple #[wdV m,K64 bor]∧m<W8∧bor≤1∧a+bor*W8=b+m:=by
 refine enter (nt:=27) (rs:=[.cell 4 199,.tmp 5]) Proofs.Tryz.func207 rfl rfl rfl (by simp) ?_
 simp -dsimp (maxSteps:=1000000) (disch:=first|omega|(simp only[new_n,put_n];omega)|decide +kernel|(repeat first|rw[new_n]|rw[put_n])) only[wpS,Nat.reduceEqDiff,Nat.reduceAdd,zc199,cells8]
 rw[wdC_wds a,wdC_wds b]
 have lA:=wds_len a
 have lB:=wds_len b
 refine loop (fun m fr h1 => ∃(i bor:Nat) (os:List Nat),i+m=8∧Ext h h1∧h.n+3≤h1.n∧h1.ext.get h.n=some (.cells (os.map K64) 0 none)∧h1.ext.get (h.n+1)=some (.cells ((wds b).map K64) 0 none)∧(∃c,h1.ext.get (h.n+1+1)=some (.cells c 0 none)∧c.length=8)∧bor≤1∧os.length=8∧B.Digs os∧(∀j,i≤j→os.getD j 0=(wds a).getD j 0) ∧
   B.valT (wds a) i+bor*18446744073709551616 ^ i=B.valT (wds b) i+B.valT os i∧fget fr 2=some (ptr (2*h.n) 0)∧fget fr 3=some (ptr (2*(h.n+1)) 0)∧fget fr 4=some (ptr (2*(h.n+1+1)) 0)∧fget fr 6=some (K64 bor)∧fget fr 8=some (KN i)) 8
  ⟨0,0,wds a,rfl,(((Ext.refl h).new _).new _).new _,by simp<;>omega,by simp (disch:=first|omega|(simp only[new_n,put_n];omega)|(repeat first|rw[new_n]|rw[put_n])) only[get_new_same,get_new_old],by simp (disch:=first|omega|(simp only[new_n,put_n];omega)|(repeat first|rw[new_n]|rw[put_n])) only[get_new_same,get_new_old],⟨[ZW,ZW,ZW,ZW,ZW,ZW,ZW,ZW],by simp (disch:=first|omega|(simp only[new_n,put_n];omega)|(repeat first|rw[new_n]|rw[put_n])) only[get_new_same],rfl⟩,by omega,lA,wds_dig a,fun _ _=>rfl,by simp[B.valT],by simp,by simp,by simp,by simp,by simp⟩ ?_
 rintro m fr h1 ⟨i,bor,os,him,hE,hn,hg,hg1,hg2,hbor,hol,hod,hoa,hv,f2,f3,f4,f6,f8⟩
 simp -dsimp (maxSteps:=1000000) (disch:=first|omega|(simp only[new_n,put_n];omega)|decide +kernel|(repeat first|rw[new_n]|rw[put_n])) only[wpS,f8]
 refine bq_intro ?_ ?_<;>intro hc<;>simp only[decide_eq_true_eq,decide_eq_false_iff_not] at hc
 ·have hi:i<8:=by omega
  have r0:=row_kn hg
  have r1:=row_kn hg1
  have go:=get_some (show i<os.length by omega)
  have gb:=get_some (show i<(wds b).length by omega)
  have hx:=hoa i (Nat.le_refl _)
  have dx:=B.getD_lt hod i
  have dy:=B.getD_lt (wds_dig b) i
  obtain⟨x,hx1⟩ : ∃x,x=os.getD i 0:=⟨_,rfl⟩
  obtain⟨y,hy1⟩ : ∃x,x=(wds b).getD i 0:=⟨_,rfl⟩
  rw[←hx1] at go dx hx
  rw[←hy1] at gb dy
  simp -dsimp (maxSteps:=1000000) (disch:=first|omega|(simp only[new_n,put_n];omega)|decide +kernel|(repeat first|rw[new_n]|rw[put_n])) only[wpS,wpT,Nat.reduceEqDiff,ar199,ld42,f2,f3,f6,f8,r0,r1,map_get,go,gb]
  refine call (sub64_ok x y bor hbor) ?_
  rintro _ _ ⟨rfl,rfl⟩
  generalize hdd:(x+18446744073709551616 - y - bor) % 18446744073709551616=d
  obtain⟨b2,hb2,hb1,hrel⟩ : ∃b2:Nat,(bif Nat.blt x (y+bor) then 1 else 0)=b2∧b2≤1∧x+b2*18446744073709551616=y+bor+d:=by
   by_cases hlt:x<y+bor
   ·have e:Nat.blt x (y+bor)=true:=by simp only[Nat.blt,Nat.ble_eq];exact hlt
    refine⟨1,by rw[e];rfl,by omega,by omega⟩
   ·have e:Nat.blt x (y+bor)=false:=by rw[Bool.eq_false_iff];intro h;simp[Nat.blt] at h;omega
    refine⟨0,by rw[e];rfl,by omega,by omega⟩
  rw[hb2]
  have hd2:d<18446744073709551616:=by omega
  have spl:=spl_k64 d (show i<os.length by omega)
  rename_i h3
  simp -dsimp (maxSteps:=1000000) (disch:=first|omega|(simp only[new_n,put_n];omega)|decide +kernel|(repeat first|rw[new_n]|rw[put_n])) only[wpS,wpT,Nat.reduceEqDiff,Nat.reduceLeDiff,ar199,st42,f2,f8,hg,spl,List.length_map,hol]
  obtain⟨c,hgc,hcl⟩:=hg2
  refine⟨m - 1,by omega,i+1,b2,os.set i d,by omega,hE.put (Nat.le_refl _) _,hn,get_put_same _ _ rfl,by simp (disch:=first|omega|(simp only[new_n,put_n];omega)|(repeat first|rw[new_n]|rw[put_n])) only[get_put_old];exact hg1,⟨c,by simp (disch:=first|omega|(simp only[new_n,put_n];omega)|(repeat first|rw[new_n]|rw[put_n])) only[get_put_old];exact hgc,hcl⟩,hb1,by rw[List.length_set,hol],hod.set _ hd2,?_,?_,by simp[f2],by simp[f3],by simp[f4],by simp,by simp⟩
  ·intro j hj
   rw[B.getD_set (by omega),if_neg (by omega)]
   exact hoa j (by omega)
  ·rw[valT_set_next (by omega),B.valT,B.valT,←hx,←hy1,Nat.pow_succ]
   have e3:x*18446744073709551616 ^ i+b2*(18446744073709551616 ^ i*18446744073709551616)=(y+bor+d)*18446744073709551616 ^ i:=by rw[←hrel];grind
   have e4:(y+bor+d)*18446744073709551616 ^ i=y*18446744073709551616 ^ i+bor*18446744073709551616 ^ i+d*18446744073709551616 ^ i:=by grind
   omega
 ·obtain rfl:i=8:=by omega
  have r0:=row_kn hg
  have lm:(os.map K64).length=8:=by rw[List.length_map,hol]
  have all:=k64_all os
  have tk8:List.take 8 (List.drop 0 (os.map K64))=os.map K64:=by rw[List.drop_zero,List.take_of_length_le (by omega)]
  obtain⟨c,hgc,hcl⟩:=hg2
  have hsp:IH.splice c 0 (os.map K64)=os.map K64:=splice_all (by rw[hcl,lm])
  simp -dsimp (maxSteps:=1000000) (disch:=first|omega|(simp only[new_n,put_n];omega)|decide +kernel|(repeat first|rw[new_n]|rw[put_n])) only[wpS,wpT,Nat.reduceEqDiff,Nat.reduceLeDiff,ld199,st199,f2,f4,f6,r0,lm,all,tk8,hgc,hcl,hsp]
  rw[←wds_of hol hod,←wdC_wds] 
  have e8 : ∀n,n<W8→B.valT (wds n) 8=n:=fun n hn=>by rw[wds_valT n 8 (Nat.le_refl _),←W8_pw,Nat.mod_eq_of_lt hn]
  rw[e8 a ha,e8 b hb,←W8_pw] at hv
  have hvo:B.valT os 8=B.valD os:=by rw[B.valD,hol]
  rw[hvo] at hv
  exact⟨hE.put (by omega) _,B.valD os,bor,rfl,val_lt8 hol hod,hbor,hv⟩
end Go.Id
