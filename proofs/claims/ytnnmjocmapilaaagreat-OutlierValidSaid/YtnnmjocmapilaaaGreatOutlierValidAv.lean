/-
  Contracts: the program's long integers: sums, differences, products, quotients, divisors.
-/
import Derived.Test.YtnnmjocmapilaaaGreatOutlierValidAu
set_option linter.unusedVariables false
set_option linter.unusedSimpArgs false
set_option linter.defProp false
set_option linter.deprecated false
namespace Go.Id
open Go
open Go.Proofs.Tryz (prog)
open Nat renaming reduceAdd→zA,reduceEqDiff→zE,reduceLeDiff→zL
set_option maxHeartbeats 16000000
theorem nM {ds:List Nat} (n:B.Norm ds) (h:Small (B.ao ds)):ds.length≤1000000:=by
 refine n.K2 (Nat.lt_of_lt_of_le h.lt ?_)
 exact FT 4294967296 18446744073709551616 1000000 (by decide)
theorem Ly {ds:List Nat} (n:B.Norm ds) (h:tX (B.ao ds)):ds.length≤500000:=by
 refine n.K2 (Nat.lt_of_lt_of_le h.lt ?_)
 exact FT 4294967296 18446744073709551616 500000 (by decide)
abbrev ZL:List Value:=[.bool false,.slice none 0 0]
theorem mb {h:IH} {v:Value} {z:Int} (hv:a9 h v z):WV prog (.func (.func 236) #[] #[]) [v] h fun r h'=>Ext h h'∧a9 h' r (-z):=by
 obtain⟨s,rfl,ds,hD,hN,hx⟩:=hv
 refine enter (nt:=9) (rs:=[.cell 2 135]) Proofs.Tryz.func236 rfl rfl rfl (by simp) ?_
 simp -dsimp (disch:=try exact dx) only[wpS,zE,ju,iG,ld4,jr,qN]
 refine call (fJ (hD.aa (((aJ.refl h).new _).new _)) _) ?_
 rintro r h1 ⟨hE,h2⟩
 have hz:(if (!decide (z<0))=true then -(B.ao ds:Int) else B.ao ds) = -z:=by
  by_cases h0:z<0<;>simp[h0]<;>omega
 rw[hz] at h2
 obtain⟨s1,n1,rfl,c1,o1,_,_⟩:=h2.form
 have n1:=(hE).n;try simp only[aI] at n1
 have hg:h1.ext.get (h.n+1)=some (.cells ZL 0 none):=by rw[hE.get _ (by simp)];simp (disch:=try exact dx) only[ah]
 simp -dsimp (disch:=try exact dx) only[wpS,wpT,zE,zL,zA,gu,bE,hg,o1]
 exact⟨((((Ext.refl h).new _).new _).trans hE).put (by omega) _,h2.aa ((aJ.refl _).put hg _)⟩
theorem qC {h:IH} {v w:Value} {x y:Int} (hv:a9 h v x) (hw:a9 h w y) (sx:aU x) (sy:aU y) :
  WV prog (.func (.func 187) #[] #[]) [v,w] h fun r h'=>Ext h h'∧a9 h' r (x+y):=by
 obtain⟨s,rfl,a,ha,na,hx⟩:=hv
 obtain⟨t,rfl,b,hb,nb,hy⟩:=hw
 have la:a.length≤1000000:=nM na (by rw[hx];exact sx)
 have lb:b.length≤1000000:=nM nb (by rw[hy];exact sy)
 refine enter (nt:=34) (rs:=[.cell 4 135]) Proofs.Tryz.func187 rfl rfl rfl (by simp) ?_
 simp -dsimp (disch:=try exact dx) only[wpS,zE,zA,ju,iG,ld4,be4]
 have ee : ∀o1 o2 o3,Ext h (((h.new o1).new o2).new o3):=fun o1 o2 o3=>(((Ext.refl h).new _).new _).new _
 refine aq (fun hc=>?_) (fun hc=>?_)
 ·have hc:(x<0↔y<0):=by simpa using hc
  simp -dsimp (disch:=try exact dx) only[wpS]
  refine drawn [(1,[7])] (by kernel_rfl) (by kernel_rfl) rfl ?_
  simp -dsimp (disch:=try exact dx) only[wpS,zE,iG,ld4,jr,qN]
  refine call (Sj (ha.aa (ee _ _ _).aa) (hb.aa (ee _ _ _).aa) (by omega) (by omega)) ?_
  rintro r h1 ⟨hE,os,hD,nV⟩
  simp -dsimp (disch:=try exact dx) only[wpS,zE]
  refine call (fJ hD _) ?_
  rintro r2 h2 ⟨hE2,hr⟩
  have hz:(if decide (x<0)=true then -(B.ao os:Int) else B.ao os)=x+y:=by
   by_cases h0:x<0<;>simp[h0]<;>omega
  rw[hz] at hr
  obtain⟨s1,n1,rfl,c1,o1,_,_⟩:=hr.form
  have m1:=(hE).n;try simp only[aI] at m1
  have m2:=(hE2).n;try simp only[aI,aH] at m2
  have hg:h2.ext.get (h.n+1+1)=some (.cells ZL 0 none):=by rw[hE2.get _ (by omega),hE.get _ (by simp)];simp (disch:=try exact dx) only[ah]
  have hr0:h1.row (2*h.n)=some [.bool (decide (x<0)),s]:=by
   rw[hE.row (by simp<;>omega)];simp -dsimp (disch:=try exact dx) only[wpS]
  simp -dsimp (disch:=try exact dx) only[wpS,wpT,zE,zL,zA,gu,hg,o1]
  refine⟨ad rfl rfl rfl rfl (ai (av:=ptr (2*h.n) 0) (v:=.bool (decide (x<0))) rfl ?_ ?_),?_⟩
  ·simp -dsimp (disch:=try exact dx) only[wpS,ld4]
  ·simp -dsimp (disch:=try exact dx) only[wpS,ld4,hr0]
  ·simp -dsimp (disch:=try exact dx) only[wpS,wpT,zE,zL,zA,bE]
   exact⟨(((ee _ _ _).trans hE).trans hE2).put (by omega) _,hr.aa ((aJ.refl _).put hg _)⟩
 ·have hc : ¬(x<0↔y<0):=by simpa using hc
  simp -dsimp (disch:=try exact dx) only[wpS,zE,jr,qN]
  refine call (xL (ha.aa (ee _ _ _).aa) (hb.aa (ee _ _ _).aa) na nb) ?_
  rintro r h1 ⟨rfl,c,rfl,hc1,hc2,hc3,hc4⟩
  simp -dsimp (disch:=try exact dx) only[wpS,zE]
  refine fC (fun fr2 h4 => ∃(p q:Int) (sp sq:Value) (ps qs:List Nat),Ext h h4∧h.n+3≤h4.n∧h4.ext.get h.n=some (.cells [.bool (decide (p<0)),sp] 0 none)∧h4.ext.get (h.n+1)=some (.cells [.bool (decide (q<0)),sq] 0 none)∧h4.ext.get (h.n+1+1)=some (.cells ZL 0 none) ∧
   gR h4 sp ps∧gR h4 sq qs∧B.Norm ps∧B.Norm qs∧B.ao ps=p.natAbs∧B.ao qs=q.natAbs∧q.natAbs≤p.natAbs∧p+q=x+y ∧ ¬(p<0↔q<0)∧ab fr2 2=some (ptr (2*h.n) 0)∧ab fr2 3=some (ptr (2*(h.n+1)) 0)∧ab fr2 4=some (ptr (2*(h.n+1+1)) 0)) (fun hc5=>?_) (fun hc5=>?_) ?_
  ·simp only[decide_eq_true_eq] at hc5
   simp -dsimp (disch:=try exact dx) only[wpS,wpT,zE,zL,zA,gu,bE,List.drop_zero,dS,ha.1.cok,hb.1.cok]
   have g0:(((h.new (.cells [.bool (decide (x<0)),s] 0 none)).new (.cells [.bool (decide (y<0)),t] 0 none)).new (.cells [.bool false,.slice none 0 0] 0 none)).ext.get h.n=some (.cells [.bool (decide (x<0)),s] 0 none):=by simp (disch:=try exact dx) only[ah,ax]
   have g1:((((h.new (.cells [.bool (decide (x<0)),s] 0 none)).new (.cells [.bool (decide (y<0)),t] 0 none)).new (.cells [.bool false,.slice none 0 0] 0 none)).put h.n (.cells [.bool (decide (y<0)),t] 0 none)).ext.get (h.n+1)=some (.cells [.bool (decide (y<0)),t] 0 none):=by simp (disch:=try exact dx) only[ah,ax,ak]
   have kp:=((ee _ _ _).aa.put g0 (.cells [.bool (decide (y<0)),t] 0 none)).put g1 (.cells [.bool (decide (x<0)),s] 0 none)
   refine⟨y,x,t,s,b,a,((ee _ _ _).put (Nat.le_refl _) _).put (by omega) _,by simp<;>omega,by simp (disch:=try exact dx) only[ae,ak],by simp (disch:=try exact dx) only[ae],by simp (disch:=try exact dx) only[ah,ak],hb.aa kp,ha.aa kp,nb,na,hy,hx,by omega,by omega,by omega,by simp,by simp,by simp⟩
  ·simp only[decide_eq_false_iff_not] at hc5
   simp -dsimp (disch:=try exact dx) only[wpS,wpT]
   exact⟨x,y,s,t,a,b,ee _ _ _,by simp<;>omega,by simp (disch:=try exact dx) only[ah,ax],by simp (disch:=try exact dx) only[ah,ax],by simp (disch:=try exact dx) only[ah],ha.aa (ee _ _ _).aa,hb.aa (ee _ _ _).aa,na,nb,hx,hy,by omega,rfl,hc,by simp,by simp,by simp⟩
  rintro fr h4 ⟨p,q,sp,sq,ps,qs,hE4,hn4,g0,g1,g2,hp,hq,np,nq,vp,vq,hle,GQ,hsg,f2,f3,f4⟩
  have r0:=bI g0
  have r1:=bI g1
  rw[mu]
  refine drawn [(1,[7])] (by kernel_rfl) (by kernel_rfl) rfl ?_
  simp -dsimp (disch:=omega) only[wpS,zE,iG,ld4,jr,qN,f2,f3,r0,r1]
  refine call (Fc hp hq nq (by omega)) ?_
  rintro r h5 ⟨hE5,os,rfl,hD,nV⟩
  simp -dsimp (disch:=omega) only[wpS,zE]
  refine call (fJ hD _) ?_
  rintro r2 h6 ⟨hE6,hr⟩
  have hz:(if decide (p<0)=true then -(B.ao os:Int) else B.ao os)=x+y:=by
   by_cases h0:p<0<;>simp[h0]<;>omega
  rw[hz] at hr
  obtain⟨s1,n1,rfl,c1,o1,_,_⟩:=hr.form
  have m1:=(hE5).n;try simp only[aI,aH] at m1
  have m2:=(hE6).n;try simp only[aI,aH] at m2
  have hg:h6.ext.get (h.n+1+1)=some (.cells ZL 0 none):=by rw[hE6.get _ (by omega),hE5.get _ (by omega)];exact g2
  have hr0:h5.row (2*h.n)=some [.bool (decide (p<0)),sp]:=bI ((hE5.get _ (by omega)).trans g0)
  simp -dsimp (disch:=omega) only[wpS,wpT,zE,zL,zA,gu,f4,hg,o1]
  refine⟨ad rfl rfl rfl rfl (ai (av:=ptr (2*h.n) 0) (v:=.bool (decide (p<0))) ?_ ?_ ?_),?_⟩
  ·simp -dsimp (disch:=omega) only[wpS]
  ·simp -dsimp (disch:=omega) only[wpS,ld4,r0]
  ·simp -dsimp (disch:=omega) only[wpS,ld4,hr0]
  ·simp -dsimp (disch:=omega) only[wpS,wpT,zE,zL,zA,bE,f4]
   exact⟨((hE4.trans hE5).trans hE6).put (by omega) _,hr.aa ((aJ.refl _).put hg _)⟩
theorem BN {h:IH} {v w:Value} {x y:Int} (hv:a9 h v x) (hw:a9 h w y) (sx:aU x) (sy:aU y) :
  WV prog (.func (.func 242) #[] #[]) [v,w] h fun r h'=>Ext h h'∧a9 h' r (x - y):=by
 obtain⟨s,n1,rfl,c1,o1,l1,z1⟩:=hv.form
 obtain⟨t,n2,rfl,c2,o2,l2,z2⟩:=hw.form
 refine enter (nt:=9) (rs:=[.cell 4 135]) Proofs.Tryz.func242 rfl rfl rfl (by simp) ?_
 simp -dsimp (disch:=try exact dx) only[wpS,zE,zA,ju]
 have ee : ∀o1 o2 o3,Ext h (((h.new o1).new o2).new o3):=fun o1 o2 o3=>(((Ext.refl h).new _).new _).new _
 refine drawn [(0,[3])] (by kernel_rfl) (by kernel_rfl) rfl ?_
 simp -dsimp (disch:=try exact dx) only[wpS,wpT,zE,zL,zA,bE]
 refine call (mb (hw.aa (ee _ _ _).aa)) ?_
 rintro r h1 ⟨hE,hT⟩
 simp -dsimp (disch:=try exact dx) only[wpS,zE]
 refine call (qC (hv.aa ((ee _ _ _).trans hE).aa) hT sx (by rw[aU,Int.natAbs_neg];exact sy)) ?_
 rintro r2 h2 ⟨hE2,hr⟩
 obtain⟨s1,n3,rfl,c3,o3,l3,z3⟩:=hr.form
 have m1:=(hE).n;try simp only[aI] at m1
 have m2:=(hE2).n;try simp only[aI,aH] at m2
 have hg:h2.ext.get (h.n+1+1)=some (.cells ZL 0 none):=by rw[hE2.get _ (by omega),hE.get _ (by simp)];simp (disch:=try exact dx) only[ah]
 have hr0:h1.row (2*h.n)=some [.bool (decide (x<0)),s]:=by
  rw[hE.row (by simp<;>omega)];simp -dsimp (disch:=try exact dx) only[wpS]
 simp -dsimp (disch:=try exact dx) only[wpS,wpT,zE,zL,zA,gu,hg,o3]
 refine⟨ad rfl rfl rfl rfl (ai (av:=ptr (2*h.n) 0) (v:=.agg #[.bool (decide (x<0)),s]) rfl ?_ ?_),?_⟩
 ·simp -dsimp (disch:=try exact dx) only[wpS,wpT,zL,zA,bE]
  rfl
 ·simp -dsimp (disch:=omega) only[wpS,wpT,zL,zA,bE,hr0]
  rfl
 ·simp -dsimp (disch:=omega) only[wpS,wpT,zE,zL,zA,bE]
  refine⟨(((ee _ _ _).trans hE).trans hE2).put (by omega) _,?_⟩
  have:x + -y=x - y:=by omega
  rw[this] at hr ⊢
  exact hr.aa ((aJ.refl _).put hg _)
theorem gf {h:IH} {v w:Value} {x y:Int} (hv:a9 h v x) (hw:a9 h w y) (sx:CQ x) (sy:CQ y) :
  WV prog (.func (.func 104) #[] #[]) [v,w] h fun r h'=>Ext h h'∧a9 h' r (x*y):=by
 obtain⟨s,rfl,ds,hD,hN,hx⟩:=hv
 obtain⟨t,rfl,es,hE,hM,hy⟩:=hw
 have l1:ds.length≤500000:=Ly hN (by rw[hx];exact sx)
 have l2:es.length≤500000:=Ly hM (by rw[hy];exact sy)
 refine enter (nt:=16) (rs:=[.cell 4 135]) Proofs.Tryz.func104 rfl rfl rfl (by simp) ?_
 simp -dsimp (disch:=try exact dx) only[wpS,zE,zA,ju]
 have kk : ∀o1 o2 o3,Ext h (((h.new o1).new o2).new o3):=fun o1 o2 o3=>(((Ext.refl h).new _).new _).new _
 refine drawn [(1,[10]),(3,[10])] (by kernel_rfl) (by kernel_rfl) rfl ?_
 simp -dsimp (disch:=try exact dx) only[wpS,zE,iG,ld4,bn4,jr,qN,vB]
 refine call (A7 (hD.aa (kk _ _ _).aa) (hE.aa (kk _ _ _).aa) (by omega)) ?_
 rintro r h1 ⟨hE1,os,hO,hOv⟩
 simp -dsimp (disch:=try exact dx) only[wpS,zE]
 refine call (fJ hO _) ?_
 rintro r2 h2 ⟨hE2,hr⟩
 rw[hOv,hx,hy,sign_mul] at hr
 obtain⟨s3,n3,rfl,c3,o3,_,_⟩:=hr.form
 have m1:=(hE1).n;try simp only[aI] at m1
 have m2:=(hE2).n;try simp only[aI,aH] at m2
 have hg:h2.ext.get (h.n+1+1)=some (.cells ZL 0 none):=by
  rw[hE2.get _ (by omega),hE1.get _ (by simp)];exact ah _ _ rfl
 have r0:h1.row (2*h.n)=some [.bool (decide (x<0)),s]:=by rw[hE1.row (by simp<;>omega)];simp -dsimp (disch:=try exact dx) only[wpS]
 have r1:h1.row (2*(h.n+1))=some [.bool (decide (y<0)),t]:=by rw[hE1.row (by simp<;>omega)];simp -dsimp (disch:=try exact dx) only[wpS]
 simp -dsimp (disch:=try exact dx) only[wpS,wpT,zE,zL,zA,gu,hg,o3]
 refine⟨jS (ad rfl rfl rfl rfl (ai (av:=ptr (2*h.n) 0) (v:=.bool (decide (x<0))) rfl ?_ ?_)) (ad rfl rfl rfl rfl (ai (av:=ptr (2*(h.n+1)) 0) (v:=.bool (decide (y<0))) rfl ?_ ?_)),?_⟩
 ·simp -dsimp (disch:=try exact dx) only[wpS,ld4]
 ·simp -dsimp (disch:=try exact dx) only[wpS,ld4,r0]
 ·simp -dsimp (disch:=try exact dx) only[wpS,ld4]
 ·simp -dsimp (disch:=omega) only[wpS,ld4,r1]
 simp -dsimp (disch:=omega) only[wpS,wpT,zE,zL,zA,bE]
 exact⟨(((kk _ _ _).trans hE1).trans hE2).put (by omega) _,hr.aa ((aJ.refl _).put hg _)⟩
theorem kD {h:IH} {v:Value} {z:Int} (hv:a9 h v z):WV prog (.func (.func 92) #[] #[]) [v] h fun r h'=>Ext h h'∧r=KI (if z<0 then -1 else if z=0 then 0 else 1):=by
 obtain⟨s,n1,rfl,c1,o1,l1,z1⟩:=hv.form
 refine enter (nt:=11) (rs:=[.tmp 2]) Proofs.Tryz.func92 rfl rfl rfl (by simp) ?_
 simp -dsimp (disch:=omega) only[wpS,zE,iG,ld4]
 refine aq ?_ ?_<;>intro hc<;>simp only[decide_eq_true_eq,decide_eq_false_iff_not] at hc
 ·simp -dsimp (disch:=omega) only[wpS,wpT,zE]
  refine⟨(Ext.refl h).new _,?_⟩
  rw[if_pos hc]
 ·simp -dsimp (disch:=omega) only[wpS,wpT,zE,jr,qN,l1 ft]
  refine aq ?_ ?_<;>intro hc2<;>simp only[beq_iff_eq,beq_eq_false_iff_ne,ne_eq] at hc2
  ·simp -dsimp (disch:=omega) only[wpS,wpT,zE]
   refine⟨(Ext.refl h).new _,?_⟩
   rw[if_neg (by omega),if_pos (by omega)]
  ·simp -dsimp (disch:=omega) only[wpS,wpT]
   refine⟨(Ext.refl h).new _,?_⟩
   rw[if_neg (by omega),if_neg (by omega)]
theorem Dx {h:IH} {v w:Value} {x y:Int} (hv:a9 h v x) (hw:a9 h w y) (sx:aU x) (sy:aU y) :
  WV prog (.func (.func 190) #[] #[]) [v,w] h fun r h'=>Ext h h'∧r=KI (if x<y then -1 else if x=y then 0 else 1):=by
 obtain⟨s,n1,rfl,c1,o1,l1,z1⟩:=hv.form
 obtain⟨t,n2,rfl,c2,o2,l2,z2⟩:=hw.form
 refine enter (nt:=9) (rs:=[.tmp 4]) Proofs.Tryz.func190 rfl rfl rfl (by simp) ?_
 simp -dsimp (disch:=try exact dx) only[wpS,wpT,zE,zL,zA,bE]
 have e2 : ∀o1 o2,Ext h ((h.new o1).new o2):=fun o1 o2=>((Ext.refl h).new _).new _
 refine call (BN (hv.aa (e2 _ _).aa) (hw.aa (e2 _ _).aa) sx sy) ?_
 rintro r h1 ⟨hE,hr⟩
 simp -dsimp (disch:=omega) only[wpS,zE]
 refine call (kD hr) ?_
 rintro _ h2 ⟨hE2,rfl⟩
 simp -dsimp (disch:=omega) only[wpS,zE]
 refine⟨((e2 _ _).trans hE).trans hE2,?_⟩
 congr 1
 split<;>split<;>(try split)<;>(try split)<;>omega
end Go.Id
namespace Go.Id
open Go
theorem UH (n:Int):IntKind.i64.wrap n=(n+9223372036854775808) % 18446744073709551616 - 9223372036854775808:=by
 have e:IntKind.i64.wrap n=if decide (n % 18446744073709551616 ≥ 9223372036854775808)=true then n % 18446744073709551616 - 18446744073709551616 else n % 18446744073709551616:=by
  simp[IntKind.wrap,IntKind.bits,IntKind.signed]
 rw[e]
 split<;>simp at * <;> omega
open Go.Proofs.Tryz (prog)
open Nat renaming reduceAdd→zA,reduceEqDiff→zE,reduceLeDiff→zL
theorem yd (n:Nat):wdC n=((List.range 8).map fun i=>(wrd n i:Int)).map (Value.int .u64):=by simp[wdC]
theorem Su {n m:Nat} (hn:n<W8) (hm:m<W8) (h : ∀i,i<8→wrd n i=wrd m i):n=m:=by
 have key : ∀i,i≤8→n % 18446744073709551616 ^ i=m % 18446744073709551616 ^ i:=by
  intro i
  induction i with
  | zero=>intro _;rw[Nat.pow_zero,Nat.mod_one,Nat.mod_one]
  | succ i ih=>intro hi;rw[DG,DG,ih (by omega),h i (by omega)]
 have:=key 8 (Nat.le_refl _)
 rw[←vE] at this
 rwa [Nat.mod_eq_of_lt hn,Nat.mod_eq_of_lt hm] at this
theorem O6 {n m:Nat} (hn:n<W8) (hm:m<W8):decide (((List.range 8).map fun i=>(wrd n i:Int))=((List.range 8).map fun i=>(wrd m i:Int)))=decide (n=m):=by
 rw[Bool.eq_iff_iff];simp only[decide_eq_true_eq]
 constructor
 ·intro h
  refine Su hn hm fun i hi=>?_
  have:=congrArg (fun l=>l[i]?) h
  simp[hi] at this
  omega
 ·rintro rfl;rfl
theorem O5 {n m:Nat} (hn:n<W8) (hm:m<W8) (ox oy:Operand):binop prog .eql 30 ox oy (.agg (wdC n).toArray) (.agg (wdC m).toArray)=some (.bool (decide (n=m))):=by
 rw[yd,yd,Bh u30 u28 Fg eg30 _ _ _ _ (by simp) (by simp),O6 hn hm]
theorem O4 {n m:Nat} (hn:n<W8) (hm:m<W8) (ox oy:Operand):binop prog .neq 30 ox oy (.agg (wdC n).toArray) (.agg (wdC m).toArray)=some (.bool (!decide (n=m))):=by
 rw[yd,yd,Bg u30 u28 Fg eg30 _ _ _ _ (by simp) (by simp),O6 hn hm]
theorem EL {n:Int} (h:0≤n):aV n=n.toNat:=by simp[aV,h]
theorem CT {n:Int} (hn:fR n) (i:Nat) (hi:i<8):(wrd (aV n) i:Int)=if i=0 then n % 18446744073709551616 else if n<0 then 18446744073709551615 else 0:=by
 by_cases h0:0≤n
 ·rw[aV,if_pos h0]
  by_cases hz:i=0
  ·subst hz
   rw[if_pos rfl,wrd,Nat.pow_zero,Nat.div_one];omega
  ·rw[if_neg hz,if_neg (by omega),tZ (i:=1) (by omega) (by omega)];rfl
 ·rw[aV,if_neg h0]
  obtain⟨u,hu⟩:=aP (n.natAbs:Nat)
  rw[←hu]
  have e:W8 - u=(18446744073709551616 - u)+18446744073709551616*(18446744073709551616 ^ 7 - 1):=by
   rw[vE];omega
  by_cases hz:i=0
  ·subst hz
   rw[if_pos rfl,wrd,Nat.pow_zero,Nat.div_one,e,Nat.add_mul_mod_self_left];omega
  ·rw[if_neg hz,if_pos (by omega)]
   obtain⟨k,rfl⟩ : ∃k,i=k+1:=⟨i - 1,by omega⟩
   have e3:((18446744073709551616 - u)+18446744073709551616*(18446744073709551616 ^ 7 - 1)) / 18446744073709551616=18446744073709551616 ^ 7 - 1:=by
    rw[Nat.add_mul_div_left _ _ (by omega),Nat.div_eq_of_lt (by omega),Nat.zero_add]
   rw[wrd,Nat.pow_succ',←Nat.div_div_eq_div_mul,e,e3]
   have hk:k<7:=by omega
   have hk2:k=0∨k=1∨k=2∨k=3∨k=4∨k=5∨k=6:=by omega
   rcases hk2 with rfl|rfl|rfl|rfl|rfl|rfl|rfl<;>rfl
def lO (w0:Int) (i:Nat):List Value:=(List.range 8).map fun j=>.int .u64 (if j=0 then w0 else if j<i then 18446744073709551615 else 0)
theorem jB (w0:Int) (i:Nat):(lO w0 i).length=8:=by simp[lO]
theorem Bl (w0:Int):lO w0 1 = [.int .u64 w0,.int .u64 0,.int .u64 0,.int .u64 0,.int .u64 0,.int .u64 0,.int .u64 0,.int .u64 0]:=by
 simp[lO,List.range_succ]
theorem Mt (w0:Int) {i:Nat} (h0:0<i) (hi:i<8):(lO w0 i).set i (.int .u64 18446744073709551615)=lO w0 (i+1):=by
 apply List.ext_getElem?
 intro j
 rw[List.getElem?_set,jB]
 by_cases hij:i=j
 ·subst hij
  rw[if_pos rfl,if_pos hi]
  simp[lO,hi,show ¬i=0 by omega]
 ·rw[if_neg hij]
  by_cases hj:j<8
  ·simp only[lO,List.getElem?_map,List.getElem?_range hj,Option.map_some]
   by_cases hz:j=0
   ·simp[hz]
   ·by_cases hlt:j<i
    ·simp[hz,hlt,show j<i+1 by omega]
    ·simp[hz,hlt,show ¬j<i+1 by omega]
  ·rw[List.getElem?_eq_none (by rw[jB];omega),List.getElem?_eq_none (by rw[jB];omega)]
theorem Mv {n:Int} (hn:fR n) (h0:n<0):lO (n % 18446744073709551616) 8=wdC (aV n):=by
 apply List.ext_getElem?
 intro j
 by_cases hj:j<8
 ·rw[du _ _ hj]
  simp only[lO,List.getElem?_map,List.getElem?_range hj,Option.map_some,K64,CT hn j hj]
  simp[h0,hj]
 ·rw[List.getElem?_eq_none (by rw[jB];omega),List.getElem?_eq_none (by rw[ar];omega)]
theorem Mu {n:Int} (hn:fR n) (h0 : ¬n<0):lO (n % 18446744073709551616) 1=wdC (aV n):=by
 apply List.ext_getElem?
 intro j
 by_cases hj:j<8
 ·rw[du _ _ hj]
  simp only[lO,List.getElem?_map,List.getElem?_range hj,Option.map_some,K64,CT hn j hj]
  by_cases hz:j=0
  ·simp[hz]
  ·simp[h0,hz]
 ·rw[List.getElem?_eq_none (by rw[jB];omega),List.getElem?_eq_none (by rw[ar];omega)]
set_option maxRecDepth 100000 in
theorem nI {h:IH} (n:Int) (hn:fR n):WV prog (.func (.func 106) #[] #[]) [KI n] h fun r h'=>Ext h h'∧r=pH n:=by
 have hw:IntKind.u64.wrap n=n % 18446744073709551616:=sm n
 have hE : ∀a b c,Ext h (((h.new a).new b).put (h.n+1) c):=fun a b c=>(((Ext.refl h).new _).new _).put (by omega) _
 have fin : ∀h1:IH,Ext h h1→h.n+1<h1.n→h1.ext.get (h.n+1)=some (.cells (wdC (aV n)) 0 none)→h1.ext.get h.n=some (.cells [ZW,ZW,ZW,ZW,ZW,ZW,ZW,ZW] 0 none)→True:=fun _ _ _ _ _=>trivial
 refine enter (nt:=17) (rs:=[.cell 2 30]) Proofs.Tryz.func106 rfl rfl rfl (by simp) ?_
 simp -dsimp (disch:=omega) only[wpR]
 rw[mu]
 simp -dsimp (disch:=try exact dx) only[wpR,nh]
 rw[mu]
 simp -dsimp (disch:=try exact dx) only[wpR,wpT,zE,zL,zA,nh,Ed,Ek,Wo,kK,hw]
 rw[mu]
 refine cut (fun fr2 h2=>Ext h h2∧ab fr2 2=some (ptr (2*h.n) 0)∧ab fr2 3=some (ptr (2*(h.n+1)) 0)∧h.n+1<h2.n∧h2.ext.get (h.n+1)=some (.cells (wdC (aV n)) 0 none)∧h2.ext.get h.n=some (.cells [ZW,ZW,ZW,ZW,ZW,ZW,ZW,ZW] 0 none)) ?_ ?_
 ·by_cases h0:n<0
  ·simp -dsimp (disch:=try exact dx) only[wpS,zE,vo h0]
   refine loop (fun m fr h2 => ∃i:Nat,i+m=8∧0<i∧ab fr 2=some (ptr (2*h.n) 0)∧ab fr 3=some (ptr (2*(h.n+1)) 0)∧ab fr 4=some (KN i)∧Ext h h2∧h.n+1<h2.n∧h2.ext.get (h.n+1)=some (.cells (lO (n % 18446744073709551616) i) 0 none)∧h2.ext.get h.n=some (.cells [ZW,ZW,ZW,ZW,ZW,ZW,ZW,ZW] 0 none)) 7 ⟨1,by simp,by simp,by simp,by simp,by simp,hE _ _ _,by simp,?_,?_⟩ ?_
   ·rw[Bl];exact ae _ _ rfl
   ·simp -dsimp (disch:=try exact dx) only[wpS]
   ·rintro m fr h2 ⟨i,him,hi0,f2,f3,f4,hE2,hlt,hg1,hg0⟩
    simp -dsimp (disch:=omega) only[wpS,zE,f4]
    refine aq ?_ ?_<;>intro hc<;>simp only[decide_eq_true_eq,decide_eq_false_iff_not] at hc
    ·have hi:i<8:=by omega
     have hsp:IH.aG (lO (n % 18446744073709551616) i) i [.int .u64 18446744073709551615]=lO (n % 18446744073709551616) (i+1):=by
      rw[gG (by rw[jB];exact hi),Mt _ hi0 hi]
     simp -dsimp (disch:=omega) only[wpS,wpT,zE,zL,tV,vU,f3,f4,tV,hg1,jB,hsp]
     refine⟨m - 1,by omega,i+1,by omega,by omega,by simp[f2],by simp[f3],by simp,hE2.put (by omega) _,by simpa using hlt,ae _ _ rfl,?_⟩
     rw[ak _ _ (by omega)];exact hg0
    ·obtain rfl:i=8:=by omega
     simp -dsimp (disch:=try exact dx) only[wpS,wpT]
     exact⟨hE2,by simp[f2],by simp[f3],hlt,by rw[hg1,Mv hn h0],hg0⟩
  ·simp -dsimp (disch:=try exact dx) only[wpS,zE,vu h0]
   refine⟨hE _ _ _,by simp,by simp,by simp,?_,?_⟩
   ·rw[←Mu hn h0,Bl];exact ae _ _ rfl
   ·simp -dsimp (disch:=try exact dx) only[wpS]
 ·rintro fr2 h2 ⟨hE2,f2,f3,hlt,hg1,hg0⟩
  have fl:h2.row (2*(h.n+1))=some (wdC (aV n)):=by rw[jl];exact AE hg1
  have I4:IH.aG [ZW,ZW,ZW,ZW,ZW,ZW,ZW,ZW] 0 (wdC (aV n))=wdC (aV n):=iI (by rw[ar];rfl)
  simp -dsimp (disch:=omega) only[wpS,wpT,zE,zL,zA,kK,eV,f2,f3,fl,hg0,ar,bS,cb,I4]
  exact⟨hE2.put (by omega) _,rfl⟩
set_option maxRecDepth 100000 in
theorem HK {h:IH} (a:Nat) (ha:a<W8):WV prog (.func (.func 182) #[] #[]) [wdV a] h fun r h'=>Ext h h'∧r=if fR (wdI a) then .tuple #[KI (wdI a),KI 0] else .tuple #[KI 0,KI 6]:=by
 have h0:=vK a 0
 obtain⟨n,hn⟩:=aP (IntKind.i64.wrap (wrd a 0:Int))
 have Zx:fR n:=by rw[hn,UH];omega
 have inw:InW (wdI a):=by
  have:=pF
  unfold InW wdI
  split<;>omega
 have ZD:aV n=a↔fR (wdI a)∧wdI a=n:=by
  constructor
  ·intro h1
   have h2:wdI a=n:=by
    rw[←h1]
    exact cm (by have:=tY;unfold InW;omega)
   exact⟨by rw[h2];exact Zx,h2⟩
  ·rintro⟨h1,h2⟩
   rw[←h2]
   have:=pF
   unfold aV wdI
   split<;>split<;>omega
 have hn2:fR (wdI a)→wdI a=n:=by
  intro h1
  have h2:aV (wdI a)=a:=by
   have:=pF
   unfold aV wdI
   split<;>split<;>omega
  have h3:=CT h1 0 (by omega)
  rw[h2,if_pos rfl] at h3
  rw[hn,h3,UH];omega
 refine enter (nt:=13) (rs:=[.tmp 2,.tmp 3]) Proofs.Tryz.func182 rfl rfl rfl (by simp) ?_
 simp -dsimp (disch:=omega) only[wpS,zE,tV,rY,Az,EP,tV,du a 0 (by omega),show pM 0 8=some 0 from rfl,←hn]
 refine drawn [(2,[1])] (by kernel_rfl) (by kernel_rfl) rfl ?_
 simp -dsimp (disch:=omega) only[wpS,zE]
 refine call (nI n Zx) ?_
 rintro r h1 ⟨hE,rfl⟩
 have hr:h1.row (2*h.n)=some (wdC a):=by rw[hE.row (by simp)];exact jk _ _ _ _ rfl
 have hEE:=((Ext.refl h).new _).trans hE
 simp -dsimp (disch:=omega) only[wpS,zE,zL,eV,hr,ar,bS,wdV,O4 (dR (show InW n by have:=tY;unfold InW;omega)) ha]
 refine⟨ad rfl rfl rfl rfl (ai (av:=ptr (2*h.n) 0) (v:=wdV a) rfl ?_ ?_),?_⟩
 ·simp -dsimp (disch:=omega) only[wpS,zL,eV,hr,ar,bS]
  rfl
 ·simp -dsimp (disch:=omega) only[wpS,zL,eV,ar,bS]
  rfl
 ·by_cases he:aV n=a
  ·have h2:=ZD.1 he
   simp -dsimp (disch:=omega) only[wpS,wpT,zE,zA,show decide (aV n=a)=true by simpa using he]
   refine⟨hEE,?_⟩
   rw[if_pos h2.1,h2.2]
  ·simp -dsimp (disch:=omega) only[wpS,wpT,zE,zA,show decide (aV n=a)=false by simpa using he]
   refine⟨hEE,?_⟩
   rw[if_neg]
   intro h2
   exact he (ZD.2 ⟨h2,hn2 h2⟩)
end Go.Id
namespace Go.Id
open Go
def wds (n:Nat):List Nat:=(List.range 8).map (wrd n)
theorem jT (n:Nat):(wds n).length=8:=by simp[wds]
theorem oF (n:Nat):B.bB (wds n):=fun d hd=>by
 simp only[wds,List.mem_map] at hd
 obtain⟨i,_,rfl⟩:=hd
 exact vK _ _
theorem mG (n:Nat):wdC n=(wds n).map K64:=by simp[wdC,wds]
theorem JY (n:Nat) {i:Nat} (hi:i<8):(wds n).getD i 0=wrd n i:=by
 rw[List.getD_eq_getElem?_getD];simp[wds,hi]
theorem yO (n:Nat) : ∀i,i≤8→B.aE (wds n) i=n % 18446744073709551616 ^ i
 | 0,_=>by simp[B.aE,Nat.mod_one]
 | i+1,h=>by
  rw[B.aE,yO n i (by omega),JY n (by omega),wrd,Nat.pow_succ,Nat.mod_mul,Nat.mul_comm]
theorem CP:W8=18446744073709551616 ^ 8:=by unfold W8;rfl
theorem dZ:H8+H8=W8:=by unfold W8 H8;rfl
theorem gU:0<H8:=by unfold H8;decide
theorem CZ {n:Nat} (h:n<W8):B.ao (wds n)=n:=by
 rw[B.ao,jT,yO n 8 (Nat.le_refl _),←CP,Nat.mod_eq_of_lt h]
theorem HL {ds:List Nat} (hl:ds.length=8) (hd:B.bB ds):wds (B.ao ds)=ds:=by
 apply List.ext_getElem (by rw[jT,hl])
 intro i h1 h2
 rw[jT] at h1
 have e1:=JY (B.ao ds) h1
 have e2:=B.qY hd i
 rw[wrd,←e2] at e1
 rw[List.getD_eq_getElem?_getD,List.getD_eq_getElem?_getD,List.getElem?_eq_getElem (by rw[jT];exact h1),List.getElem?_eq_getElem h2] at e1
 simpa using e1
theorem SB {ds:List Nat} (hl:ds.length=8) (hd:B.bB ds):B.ao ds<W8:=by
 have:=B.jg hd
 rwa [hl,←CP] at this
theorem cD (n:Nat):(wdV n).cells.toList=wdC n:=rfl
set_option maxHeartbeats 2000000 in
theorem oN {h:IH} (a b:Nat) (ha:a<W8) (hb:b<W8):WV Proofs.Tryz.prog (.func (.func 243) #[] #[]) [wdV a,wdV b] h fun r h'=>Ext h h' ∧ ∃m bor,r=.tuple #[wdV m,K64 bor]∧m<W8∧bor≤1∧a+bor*W8=b+m:=by
 refine enter (nt:=27) (rs:=[.cell 4 244,.tmp 5]) Proofs.Tryz.func243 rfl rfl rfl (by simp) ?_
 simp -dsimp (maxSteps:=1000000) (disch:=first|omega|(simp only[aI,aH];omega)|decide +kernel|(repeat first|rw[aI]|rw[aH])) only[wpS,Nat.reduceEqDiff,Nat.reduceAdd,OP,cD]
 rw[mG a,mG b]
 have lA:=jT a
 have lB:=jT b
 refine loop (fun m fr h1 => ∃(i bor:Nat) (os:List Nat),i+m=8∧Ext h h1∧h.n+3≤h1.n∧h1.ext.get h.n=some (.cells (os.map K64) 0 none)∧h1.ext.get (h.n+1)=some (.cells ((wds b).map K64) 0 none)∧(∃c,h1.ext.get (h.n+1+1)=some (.cells c 0 none)∧c.length=8)∧bor≤1∧os.length=8∧B.bB os∧(∀j,i≤j→os.getD j 0=(wds a).getD j 0) ∧
   B.aE (wds a) i+bor*18446744073709551616 ^ i=B.aE (wds b) i+B.aE os i∧ab fr 2=some (ptr (2*h.n) 0)∧ab fr 3=some (ptr (2*(h.n+1)) 0)∧ab fr 4=some (ptr (2*(h.n+1+1)) 0)∧ab fr 6=some (K64 bor)∧ab fr 8=some (KN i)) 8
  ⟨0,0,wds a,rfl,(((Ext.refl h).new _).new _).new _,by simp<;>omega,by simp (disch:=first|omega|(simp only[aI,aH];omega)|(repeat first|rw[aI]|rw[aH])) only[ah,ax],by simp (disch:=first|omega|(simp only[aI,aH];omega)|(repeat first|rw[aI]|rw[aH])) only[ah,ax],⟨[ZW,ZW,ZW,ZW,ZW,ZW,ZW,ZW],by simp (disch:=first|omega|(simp only[aI,aH];omega)|(repeat first|rw[aI]|rw[aH])) only[ah],rfl⟩,by omega,lA,oF a,fun _ _=>rfl,by simp[B.aE]⟩ ?_
 rintro m fr h1 ⟨i,bor,os,him,hE,hn,hg,hg1,hg2,QX,hol,hod,hoa,hv,f2,f3,f4,f6,f8⟩
 simp -dsimp (maxSteps:=1000000) (disch:=first|omega|(simp only[aI,aH];omega)|decide +kernel|(repeat first|rw[aI]|rw[aH])) only[wpS,f8]
 refine aq ?_ ?_<;>intro hc<;>simp only[decide_eq_true_eq,decide_eq_false_iff_not] at hc
 ·have hi:i<8:=by omega
  have r0:=bI hg
  have r1:=bI hg1
  have go:=get_some (show i<os.length by omega)
  have gb:=get_some (show i<(wds b).length by omega)
  have hx:=hoa i (Nat.le_refl _)
  have dx:=B.bH hod i
  have dy:=B.bH (oF b) i
  obtain⟨x,hx1⟩:=aP (os.getD i 0)
  obtain⟨y,hy1⟩:=aP ((wds b).getD i 0)
  rw[←hx1] at go dx hx
  rw[←hy1] at gb dy
  simp -dsimp (maxSteps:=1000000) (disch:=first|omega|(simp only[aI,aH];omega)|decide +kernel|(repeat first|rw[aI]|rw[aH])) only[wpS,wpT,Nat.reduceEqDiff,Mg,rY,f2,f3,f6,f8,r0,r1,cc,go,gb]
  refine call (Fh x y bor QX) ?_
  rintro _ _ ⟨rfl,rfl⟩
  generalize hdd:(x+18446744073709551616 - y - bor) % 18446744073709551616=d
  obtain⟨b2,hb2,hb1,jJ⟩ : ∃b2:Nat,(bif Nat.blt x (y+bor) then 1 else 0)=b2∧b2≤1∧x+b2*18446744073709551616=y+bor+d:=by
   by_cases hlt:x<y+bor
   ·have e:Nat.blt x (y+bor)=true:=by simp only[Nat.blt,Nat.ble_eq];exact hlt
    refine⟨1,by rw[e];rfl,by omega,by omega⟩
   ·have e:Nat.blt x (y+bor)=false:=by rw[Bool.eq_false_iff];intro h;simp[Nat.blt] at h;omega
    refine⟨0,by rw[e];rfl,by omega,by omega⟩
  rw[hb2]
  have hd2:d<18446744073709551616:=by omega
  have spl:=jV d (show i<os.length by omega)
  rename_i h3
  simp -dsimp (maxSteps:=1000000) (disch:=first|omega|(simp only[aI,aH];omega)|decide +kernel|(repeat first|rw[aI]|rw[aH])) only[wpS,wpT,Nat.reduceEqDiff,Nat.reduceLeDiff,Mg,vU,f2,f8,hg,spl,List.length_map,hol]
  obtain⟨c,hgc,hcl⟩:=hg2
  refine⟨m - 1,by omega,i+1,b2,os.set i d,by omega,hE.put (Nat.le_refl _) _,hn,ae _ _ rfl,by simp (disch:=first|omega|(simp only[aI,aH];omega)|(repeat first|rw[aI]|rw[aH])) only[ak];exact hg1,⟨c,by simp (disch:=first|omega|(simp only[aI,aH];omega)|(repeat first|rw[aI]|rw[aH])) only[ak];exact hgc,hcl⟩,hb1,by rw[List.length_set,hol],hod.set _ hd2,?_,?_,by simp[f2,f3,f4]⟩
  ·intro j hj
   rw[B.dh (by omega),if_neg (by omega)]
   exact hoa j (by omega)
  ·rw[jU (by omega),B.aE,B.aE,←hx,←hy1,Nat.pow_succ]
   have e3:x*18446744073709551616 ^ i+b2*(18446744073709551616 ^ i*18446744073709551616)=(y+bor+d)*18446744073709551616 ^ i:=by rw[←jJ];grind
   have e4:(y+bor+d)*18446744073709551616 ^ i=y*18446744073709551616 ^ i+bor*18446744073709551616 ^ i+d*18446744073709551616 ^ i:=by grind
   omega
 ·obtain rfl:i=8:=by omega
  have r0:=bI hg
  have lm:(os.map K64).length=8:=by rw[List.length_map,hol]
  have all:=Lh os
  have tk8:List.take 8 (List.drop 0 (os.map K64))=os.map K64:=by rw[List.drop_zero,List.take_of_length_le (by omega)]
  obtain⟨c,hgc,hcl⟩:=hg2
  have hsp:IH.aG c 0 (os.map K64)=os.map K64:=iI (by rw[hcl,lm])
  simp -dsimp (maxSteps:=1000000) (disch:=first|omega|(simp only[aI,aH];omega)|decide +kernel|(repeat first|rw[aI]|rw[aH])) only[wpS,wpT,Nat.reduceEqDiff,Nat.reduceLeDiff,xy,Fp,f2,f4,f6,r0,lm,all,tk8,hgc,hcl,hsp]
  rw[←HL hol hod,←mG] 
  have e8 : ∀n,n<W8→B.aE (wds n) 8=n:=fun n hn=>by rw[yO n 8 (Nat.le_refl _),←CP,Nat.mod_eq_of_lt hn]
  rw[e8 a ha,e8 b hb,←CP] at hv
  have hvo:B.aE os 8=B.ao os:=by rw[B.ao,hol]
  rw[hvo] at hv
  exact⟨hE.put (by omega) _,B.ao os,bor,rfl,SB hol hod,QX,hv⟩
open Go.Proofs.Tryz (prog)
open Nat (reduceMul)
open Nat renaming reduceAdd→zA,reduceEqDiff→zE,reduceLeDiff→zL
theorem uv {h:IH} (a b:Nat) (ha:a<W8) (hb:b<W8):WV prog (.func (.func 215) #[] #[]) [wdV a,wdV b] h fun r h'=>Ext h h'∧r=KI (if a<b then -1 else if a=b then 0 else 1):=by
 refine enter (nt:=24) (rs:=[.tmp 4]) Proofs.Tryz.func215 rfl rfl rfl (by simp) ?_
 simp -dsimp (disch:=omega) only[wpS,zE,zA,cD]
 rw[mG a,mG b]
 have lA:=jT a
 have lB:=jT b
 have e2 : ∀o1 o2,Ext h ((h.new o1).new o2):=fun o1 o2=>((Ext.refl h).new _).new _
 have hA:B.ao (wds a)=a:=CZ ha
 have hB:B.ao (wds b)=b:=CZ hb
 refine loop (fun m fr h1=>h1=((h.new (.cells ((wds a).map K64) 0 none)).new (.cells ((wds b).map K64) 0 none))∧m≤8∧(∀j,m≤j→j<8→(wds a).getD j 0=(wds b).getD j 0) ∧
   ab fr 2=some (ptr (2*h.n) 0)∧ab fr 3=some (ptr (2*(h.n+1)) 0)∧ab fr 5=some (KI ((m:Int) - 1))) 8
  ⟨rfl,Nat.le_refl _,fun j h1 h2=>by omega,by simp⟩ ?_
 rintro m fr h1 ⟨rfl,hm,hz,f2,f3,f5⟩
 rcases Nat.eq_zero_or_pos m with rfl|hp
 ·simp -dsimp (disch:=omega) only[wpS,wpT,zE,f5]
  refine⟨e2 _ _,?_⟩
  have:=B.lJ (lA.trans lB.symm) (fun j hj=>hz j (Nat.zero_le _) (by omega))
  rw[hA,hB] at this
  rw[if_neg (by omega),if_pos this]
 ·obtain⟨k,rfl⟩ : ∃k,m=k+1:=⟨m - 1,by omega⟩
  have h2:(((k+1:Nat):Int) - 1)=(k:Int):=by omega
  rw[h2] at f5
  have ga:=get_some (show k<(wds a).length by omega)
  have gb:=get_some (show k<(wds b).length by omega)
  have da:=B.bH (oF a) k
  have db:=B.bH (oF b) k
  have key:((wds a).getD k 0<(wds b).getD k 0→a<b)∧((wds b).getD k 0<(wds a).getD k 0→b<a):=by
   have k1:=fun h=>B.jH (oF a) (lA.trans lB.symm) (show k<(wds a).length by omega) h (fun j x y=>hz j (by omega) (by omega))
   have k2:=fun h=>B.jH (oF b) (lB.trans lA.symm) (show k<(wds b).length by omega) h (fun j x y=>(hz j (by omega) (by omega)).symm)
   rw[hA,hB] at k1 k2
   exact⟨k1,k2⟩
  obtain⟨x,hx⟩:=aP ((wds a).getD k 0)
  obtain⟨y,hy⟩ : ∃x,x=(wds b).getD k 0:=⟨_,rfl⟩
  rw[←hx] at ga da key
  rw[←hy] at gb db key
  simp -dsimp (disch:=try exact dx) only[wpS,wpT,zE,Mg,rY,f2,f3,f5,cc,ga,gb]
  refine aq ?_ ?_<;>intro hc<;>simp only[bne_iff_ne,bne_eq_false_iff_eq,ne_eq] at hc
  ·simp -dsimp (disch:=try exact dx) only[wpS,wpT,zE,Mg,rY,f2,f3,f5,cc,ga,gb]
   refine aq ?_ ?_<;>intro hc2<;>simp only[decide_eq_true_eq,decide_eq_false_iff_not] at hc2
   ·simp -dsimp (disch:=omega) only[wpS,wpT,zE]
    have:=key.1 (by omega)
    exact⟨e2 _ _,by rw[if_pos this]⟩
   ·simp -dsimp (disch:=omega) only[wpS,wpT]
    have:=key.2 (by omega)
    exact⟨e2 _ _,by rw[if_neg (by omega),if_neg (by omega)]⟩
  ·simp -dsimp (disch:=try exact dx) only[wpS,wpT,zE,f5]
   refine⟨k,by omega,rfl,by omega,fun j h1 h2=>?_,by simp[f2],by simp[f3],by simp⟩
   by_cases hj:j=k
   ·subst hj;omega
   ·exact hz j (by omega) h2
def Qi (b:Bool) (n:Nat):Value:=.agg (Value.bool b :: wdC n).toArray
theorem BU (b:Bool) (n:Nat):(Qi b n).cells.toList=.bool b :: wdC n:=rfl
theorem ev (n:Nat):IH.aG [ZW,ZW,ZW,ZW,ZW,ZW,ZW,ZW] 0 (wdC n)=wdC n:=iI (by rw[ar];rfl)
theorem C0 (m n:Nat):IH.aG (wdC m) 0 (wdC n)=wdC n:=iI (by rw[ar,ar])
theorem kE (b:Value) (n:Nat):List.take 8 (List.drop 1 (b :: wdC n))=wdC n:=by
 rw[List.drop_succ_cons,List.drop_zero,List.take_of_length_le (by rw[ar];omega)]
theorem wk (b:Value) (n:Nat):List.take 9 (List.drop 0 (b :: wdC n))=b :: wdC n:=by
 rw[List.drop_zero,List.take_of_length_le (by simp[ar])]
theorem O3:List.take 8 (List.drop 0 [ZW,ZW,ZW,ZW,ZW,ZW,ZW,ZW]) = [ZW,ZW,ZW,ZW,ZW,ZW,ZW,ZW]:=rfl
theorem mF:Value.agg #[ZW,ZW,ZW,ZW,ZW,ZW,ZW,ZW]=wdV 0:=by rw[wdV,lP]
theorem S9 {h:IH} (n:Nat) (hn:n<W8):WV prog (.func (.func 192) #[] #[]) [wdV n] h fun r h'=>Ext h h'∧r=Qi (decide (wdI n<0)) (wdI n).natAbs:=by
 have h7:=VP hn
 have l7:=vK n 7
 have hs:mB (wrd n 7) 63=wrd n 7 / 9223372036854775808:=Nat.shiftRight_eq_div_pow _ _
 have Xb:((((wrd n 7 / 9223372036854775808:Nat):Int)) == 1)=decide (wdI n<0):=by
  have h2:=dZ
  by_cases hlt:n<H8
  ·have e1:wrd n 7 / 9223372036854775808=0:=by have:=h7.2 hlt;omega
   rw[e1,wdI,if_pos hlt];simp
  ·have e1:wrd n 7 / 9223372036854775808=1:=by
    have : ¬wrd n 7<9223372036854775808:=fun h=>hlt (h7.1 h)
    omega
   rw[e1,wdI,if_neg hlt];simp;omega
 refine enter (nt:=21) (rs:=[.cell 2 246]) Proofs.Tryz.func192 rfl rfl rfl (by simp) ?_
 simp -dsimp (disch:=try exact dx) only[wpS,wpT,zE,zL,zA,Int.reduceToNat,JR,tV,rY,eV,VB,KE,Tg,Fo,rR,ld4,cD,ar,cb,bS,tV,du n 7 (by omega),show pM 7 8=some 7 from rfl,hs,Xb,ev]
 refine aq ?_ ?_<;>intro hc<;>simp only[decide_eq_true_eq,decide_eq_false_iff_not] at hc
 ·have h2:=dZ
  have hge:H8≤n:=by
   unfold wdI at hc
   split at hc<;>omega
  have hw:wdI n = -((W8 - n:Nat):Int):=by
   unfold wdI
   rw[if_neg (by omega)]
   omega
  simp -dsimp (disch:=try exact dx) only[wpS,wpT,zE,zL,zA,LV,j5,xy,kE,ar]
  rw[mF]
  refine call (oN 0 n (by omega) hn) ?_
  rintro _ h1 ⟨hE,m,bor,rfl,hm,hb,jJ⟩
  have hp:=gU
  have hb1:bor=1:=by
   rcases Nat.eq_zero_or_pos bor with h0|h0
   ·subst h0;omega
   ·omega
  subst hb1
  have hmm:(wdI n).natAbs=m:=by omega
  rw[hmm]
  have n1:=(hE).n;try simp only[aI,aH] at n1
  have g2:h1.ext.get (h.n+1+1)=some (.cells (.bool true :: wdC n) 0 none):=by rw[hE.get _ (by simp)];simp (disch:=try exact dx) only[ae]
  have g1:h1.ext.get (h.n+1)=some (.cells [.bool false,ZW,ZW,ZW,ZW,ZW,ZW,ZW,ZW] 0 none):=by rw[hE.get _ (by simp)];simp (disch:=try exact dx) only[ah,ax,ak]
  simp -dsimp (disch:=try exact dx) only[wpS,wpT,zE,zL,zA,Fo,j5,Fp,QG,g2,cD,ar,cb,C0,wk,g1,ev]
  refine⟨?_,by simp[Qi]⟩
  exact(((((Ext.refl h).new _).new _).new _).put (by omega) _).trans hE |>.put (by omega) _ |>.put (by omega) _
 ·have hlt:n<H8:=by
   apply Classical.byContradiction;intro hne
   apply hc
   unfold wdI
   rw[if_neg hne];omega
  have hw:(wdI n).natAbs=n:=by unfold wdI;rw[if_pos hlt];omega
  simp -dsimp (disch:=try exact dx) only[wpS,wpT,zE,zL,zA,Fo,QG,ar,cb,wk,ev]
  rw[hw]
  exact⟨((((Ext.refl h).new _).new _).new _).put (by omega) _ |>.put (by omega) _,by simp[Qi]⟩
theorem jb {h:IH} (n:Nat) (hn:n<W8):WV prog (.func (.func 103) #[] #[]) [wdV n] h fun r h'=>Ext h h'∧a9 h' r (wdI n):=by
 have h2:=dZ
 have hab:(wdI n).natAbs<W8:=by unfold wdI;split<;>omega
 refine enter (nt:=13) (rs:=[.cell 2 135]) Proofs.Tryz.func103 rfl rfl rfl (by simp) ?_
 simp -dsimp (disch:=try exact dx) only[wpS,zE,zL,ju,eV,cD,ar,bS]
 refine call (S9 n hn) ?_
 rintro _ h1 ⟨hE,rfl⟩
 have n1:=(hE).n;try simp only[aI] at n1
 simp -dsimp (disch:=try exact dx) only[wpS,wpT,zE,zL,zA,JR,Fo,BU,ar,cb,ev]
 obtain⟨H2,hH2⟩ : ∃H2,H2=(h1.new (.cells [.bool false,ZW,ZW,ZW,ZW,ZW,ZW,ZW,ZW] 0 none)).put h1.n (.cells (.bool (decide (wdI n<0)) :: wdC (wdI n).natAbs) 0 none):=⟨_,rfl⟩
 have n2:H2.n=h1.n+1:=by rw[hH2];rfl
 have g3:H2.ext.get h1.n=some (.cells (.bool (decide (wdI n<0)) :: wdC (wdI n).natAbs) 0 none):=by rw[hH2];simp (disch:=try exact dx) only[ae]
 have g1:H2.ext.get (h.n+1)=some (.cells ZL 0 none):=by rw[hH2];simp (disch:=try exact dx) only[ax,ak];rw[hE.get _ (by simp)];simp (disch:=try exact dx) only[ah]
 have E2:Ext h H2:=by rw[hH2];exact(((((Ext.refl h).new _).new _).trans hE).new _).put (by omega) _
 rw[←hH2]
 have r3:=bI g3
 have r4:(H2.new (.cells [] 1 none)).row (2*h1.n)=some (.bool (decide (wdI n<0)) :: wdC (wdI n).natAbs):=bI (by simp (disch:=try exact dx) only[ax];exact g3)
 have Zv:pO (H2.new (.cells [] 1 none)) 1 (.slice (some ⟨2*h1.n,1,none⟩) 8 (2*8+1)) 8 (wdC (wdI n).natAbs):=Uw r4 (by omega) (by rw[ar]) (kE _ _) (by simp[ar])
 have hap:=rf ZaC (H2.new (.cells [] 1 none)) Zv (by omega) (cb _) (by omega) (2*H2.n) 0
 refine drawn [(1,[5,6])] (by kernel_rfl) (by kernel_rfl) rfl ?_
 simp -dsimp (disch:=try exact dx) only[wpS,wpT,zE,zA,reduceMul,rR,ld4,RZ,j5,OE,r3,By (P:=prog) Yk Fg (by omega),hap]
 have hW:gR ((H2.new (.cells [] 1 none)).new (.cells (wdC (wdI n).natAbs) 1 none)) (.slice (some ⟨2*(H2.n+1),0,none⟩) 8 16) (wds (wdI n).natAbs):=by
  refine⟨?_,oF _,by rw[jT];omega⟩
  rw[←mG,jT]
  exact(yF (h:=H2.new (.cells [] 1 none)) (sz:=1) (m:=8) (by omega) (by rw[ar]) (by omega)).sl
 refine call (fJ hW _) ?_
 rintro _ h3 ⟨hE3,hr⟩
 rw[CZ hab] at hr
 have hz:(if decide (wdI n<0)=true then -((wdI n).natAbs:Int) else (wdI n).natAbs)=wdI n:=by
  by_cases h0:wdI n<0<;>simp[h0]<;>omega
 rw[hz] at hr
 obtain⟨s1,n3,rfl,c3,o3,l3,z3⟩:=hr.form
 have m3:=(hE3).n;try simp only[aI] at m3
 have hg:h3.ext.get (h.n+1)=some (.cells ZL 0 none):=by rw[hE3.get _ (by simp only[aI];omega)];simp (disch:=try exact dx) only[ax];exact g1
 have r5:((H2.new (.cells [] 1 none)).new (.cells (wdC (wdI n).natAbs) 1 none)).row (2*h1.n)=some (.bool (decide (wdI n<0)) :: wdC (wdI n).natAbs):=bI (by simp (disch:=try exact dx) only[ax];exact g3)
 have r6:h3.row (2*h1.n)=some (.bool (decide (wdI n<0)) :: wdC (wdI n).natAbs):=bI (by rw[hE3.get _ (by simp only[aI];omega)];simp (disch:=try exact dx) only[ax];exact g3)
 simp -dsimp (disch:=omega) only[wpS,wpT,zE,zL,zA,gu,hg,o3]
 refine⟨ub (ad rfl rfl rfl rfl (ai (av:=ptr (2*h1.n) 0) (v:=.bool (decide (wdI n<0))) rfl ?_ ?_)) (ad rfl rfl rfl rfl (ai (av:=ptr (2*h1.n) 0) (v:=.bool (decide (wdI n<0))) rfl ?_ ?_)),?_⟩
 ·simp -dsimp (disch:=omega) only[wpS,ld4,r3]
 ·simp -dsimp (disch:=try exact dx) only[wpS,ld4,r4]
 ·simp -dsimp (disch:=try exact dx) only[wpS,ld4,r3]
 ·simp -dsimp (disch:=try exact dx) only[wpS,ld4,r5]
 simp -dsimp (disch:=try exact dx) only[wpS,wpT,zE,zL,zA,bE]
 exact⟨(((E2.new _).new _).trans hE3).put (by omega) _,hr.aa ((aJ.refl _).put hg _)⟩
theorem Q2 : [ZW,ZW,ZW,ZW,ZW,ZW,ZW,.int .u64 9223372036854775808]=wdC H8:=by
 have h2:B.ao [0,0,0,0,0,0,0,9223372036854775808]=H8:=by unfold H8;simp[B.ao,B.aE]
 have h3:=HL (ds:=[0,0,0,0,0,0,0,9223372036854775808]) rfl (by intro d hd;simp at hd;omega)
 rw[h2] at h3
 rw[mG,h3];rfl
theorem IP {h:IH} (b:Bool) (n:Nat) (hn:n<W8):WV prog (.func (.func 195) #[] #[]) [Qi b n] h fun r h'=>Ext h h'∧r=if H8<n∨(n=H8∧b=false) then .tuple #[wdV 0,KI 6] else .tuple #[wdV (if b=true then (W8 - n) % W8 else n),KI 0]:=by
 have h2:=dZ
 have hp:=gU
 refine enter (nt:=35) (rs:=[.cell 2 30,.tmp 3]) Proofs.Tryz.func195 rfl rfl rfl (by simp) ?_
 simp -dsimp (disch:=try exact dx) only[wpS,wpT,zE,zL,zA,nh,LV,Th,OP,Fp,j5,xy,BU,ar,kE]
 rw[Q2]
 simp -dsimp (disch:=try exact dx) only[bS]
 refine call (uv n H8 hn (by omega)) ?_
 rintro _ h1 ⟨hE,rfl⟩
 have n1:=(hE).n;try simp only[aI,aH] at n1
 have g0:h1.ext.get h.n=some (.cells (.bool b :: wdC n) 0 none):=by rw[hE.get _ (by simp<;>omega)];simp (disch:=try exact dx) only[ah,ax,ak]
 have g1:h1.ext.get (h.n+1)=some (.cells [ZW,ZW,ZW,ZW,ZW,ZW,ZW,ZW] 0 none):=by rw[hE.get _ (by simp)];simp (disch:=try exact dx) only[ah,ax,ak]
 have hE1:=((((Ext.refl h).new _).new _).new _).put (by omega) _ |>.trans hE
 have r0:=bI g0
 have r1:=bI g1
 rcases Nat.lt_trichotomy n H8 with hlt|heq|hgt
 ·rw[if_pos hlt,if_neg (by omega)]
  cases b
  ·simp -dsimp (disch:=omega) only[wpS,wpT,zE,zL,zA,j5,xy,rR,ld4,kK,eV,r0,g1,ar,cb,kE,ev,bS]
   exact⟨hE1.put (by omega) _,by simp;rfl⟩
  ·simp -dsimp (disch:=omega) only[wpS,wpT,zE,zL,zA,LV,j5,xy,rR,ld4,r0,ar,kE]
   rw[mF]
   refine call (oN 0 n (by omega) hn) ?_
   rintro _ h3 ⟨hE3,m,bor,rfl,hm,hb,jJ⟩
   have hmm:(W8 - n) % W8=m:=by
    rcases Nat.eq_zero_or_pos bor with h0|h0
    ·subst h0
     have h5:n=0:=by omega
     rw[h5,Nat.sub_zero,Nat.mod_self];omega
    ·have h5:bor=1:=by omega
     subst h5
     by_cases h6:n=0
     ·exfalso;omega
     ·rw[Nat.mod_eq_of_lt (by omega)];omega
   have n3:=(hE3).n;try simp only[aI,aH] at n3
   have k0:=(hE3.get _ (by omega)).trans g0
   have k1:=(hE3.get _ (by omega)).trans g1
   simp -dsimp (disch:=omega) only[wpS,wpT,zE,zL,zA,Fp,j5,xy,kK,eV,k0,k1,cD,ar,cb,kE,C0,ev,bS]
   refine⟨((hE1.trans hE3).put (by omega) _).put (by omega) _,?_⟩
   rw[hmm]
   simp
   try rfl
 ·subst heq
  rw[if_neg (by omega),if_pos rfl]
  cases b
  ·simp -dsimp (disch:=omega) only[wpS,wpT,zE,zL,zA,rR,ld4,Ek,kK,eV,r0,g1,O3]
   refine⟨hE1.put (by omega) _,?_⟩
   simp[mF]
  ·simp -dsimp (disch:=omega) only[wpS,wpT,zE,zL,zA,LV,j5,xy,rR,ld4,r0,ar,kE]
   rw[mF]
   refine call (oN 0 H8 (by omega) hn) ?_
   rintro _ h3 ⟨hE3,m,bor,rfl,hm,hb,jJ⟩
   have hmm:(W8 - H8) % W8=m:=by
    rcases Nat.eq_zero_or_pos bor with h0|h0
    ·subst h0
     have h5:H8=0:=by omega
     rw[h5,Nat.sub_zero,Nat.mod_self];omega
    ·have h5:bor=1:=by omega
     subst h5
     by_cases h6:H8=0
     ·exfalso;omega
     ·rw[Nat.mod_eq_of_lt (by omega)];omega
   have n3:=(hE3).n;try simp only[aI,aH] at n3
   have k0:=(hE3.get _ (by omega)).trans g0
   have k1:=(hE3.get _ (by omega)).trans g1
   simp -dsimp (disch:=omega) only[wpS,wpT,zE,zL,zA,Fp,j5,xy,kK,eV,k0,k1,cD,ar,cb,kE,C0,ev,bS]
   refine⟨((hE1.trans hE3).put (by omega) _).put (by omega) _,?_⟩
   rw[hmm]
   simp
   try rfl
 ·rw[if_neg (by omega),if_neg (by omega)]
  simp -dsimp (disch:=omega) only[wpS,wpT,zE,zL,zA,Ek,kK,eV,g1,O3]
  refine⟨hE1.put (by omega) _,?_⟩
  rw[mF,if_pos (.inl hgt)]
end Go.Id
