/-
  Contracts: the reference's long integers: products, quotients, divisors. Contracts: the program's long integers: sums, differences, products, quotients, divisors.
-/
import Derived.Test.YtnanhedgenokpaaGreatTemperMovesAt
import Derived.Test.YtnanhedgenokpaaGreatTemperMovesAx
import Derived.Test.YtnanhedgenokpaaGreatTemperMovesAv
import Derived.Test.YtnanhedgenokpaaGreatTemperMovesBa
import Derived.Test.YtnanhedgenokpaaGreatTemperMovesAw
set_option linter.unusedVariables false
set_option linter.unusedSimpArgs false
set_option linter.defProp false
set_option linter.deprecated false
namespace Go.Id
open Go
open Go.Proofs.Tryz (prog)
open Nat renaming reduceAdd→zA,reduceEqDiff→zE,reduceLeDiff→zL
set_option maxHeartbeats 16000000
theorem EP (b k:Nat) (hb:1<b) (hk:k≠0):1<b ^ k:=Nat.one_lt_pow hk hb
theorem CP (a b k:Nat) (h:a≤b):a ^ k≤b ^ k:=Nat.pow_le_pow_left h k
theorem Kn (b c k m n:Nat) (h:b=c ^ m) (h2:n=m*k):b ^ k=c ^ n:=by rw[h,h2,Nat.pow_mul]
theorem Nm (b k n:Nat) (hb:1<b) (h:k<n):b ^ k<b ^ n:=Nat.pow_lt_pow_right hb h
theorem AW:Small 1:=.mk (EP 4294967296 1000000 (by decide) (by decide))
theorem iF {n:Nat} (h:Small n):aS (n:Int):=(Int.natAbs_natCast n).symm▸h
@[irreducible] def pW (x:Nat):Prop:=x<4294967296 ^ 500000
abbrev ku (z:Int):Prop:=pW z.natAbs
theorem pW.lt {x:Nat} (h:pW x):x<4294967296 ^ 500000:=by unfold pW at h;exact h
theorem pW.mk {x:Nat} (h:x<4294967296 ^ 500000):pW x:=by unfold pW;exact h
theorem pW.small {x:Nat} (h:pW x):Small x:=by
 have:=h.lt
 refine .mk ?_
 exact Nat.lt_of_lt_of_le this (EO 4294967296 (by decide) 500000 1000000 (by decide))
theorem pW.len {ds:List Nat} (h:pW (au ds)) (n:Norm ds):ds.length≤500000:=n.GQ h.lt
theorem sign_mul (x y:Int):(if (decide (x<0) != decide (y<0))=true then -((x.natAbs*y.natAbs:Nat):Int) else ((x.natAbs*y.natAbs:Nat):Int))=x*y:=by
 have e1:((x.natAbs*y.natAbs:Nat):Int)=(x.natAbs:Int)*(y.natAbs:Int):=by simp
 rw[e1]
 rcases Int.lt_or_le x 0 with hx|hx<;>rcases Int.lt_or_le y 0 with hy|hy
 ·have a:(x.natAbs:Int) = -x:=by omega
  have b:(y.natAbs:Int) = -y:=by omega
  simp[hx,hy,a,b,Int.neg_mul_neg]
 ·have a:(x.natAbs:Int) = -x:=by omega
  have b:(y.natAbs:Int)=y:=by omega
  have c : ¬y<0:=by omega
  simp[hx,c,a,b,Int.neg_mul]
 ·have a:(x.natAbs:Int)=x:=by omega
  have b:(y.natAbs:Int) = -y:=by omega
  have c : ¬x<0:=by omega
  simp[hy,c,a,b,Int.mul_neg]
 ·have a:(x.natAbs:Int)=x:=by omega
  have b:(y.natAbs:Int)=y:=by omega
  have c : ¬x<0:=by omega
  have d : ¬y<0:=by omega
  simp[c,d,a,b]
theorem dQ (a b:Value):List.take 2 [a,b] = [a,b]:=rfl
theorem tf (a b:Bool):(!(a == b))=(a != b):=rfl
theorem og {h:IH} {v w:Value} {x y:Int} (hv:aZ h v x) (hw:aZ h w y) (sx:ku x) (sy:ku y) :
  WV prog (.func (.func 155) #[] #[]) [v,w] h fun r h'=>Ext h h'∧aZ h' r (x*y):=by
 obtain⟨s,rfl,ds,hD,hN,hx⟩:=hv
 obtain⟨t,rfl,es,hE,hM,hy⟩:=hw
 have l1:ds.length≤500000:=pW.len (by rw[hx];exact sx) hN
 have l2:es.length≤500000:=pW.len (by rw[hy];exact sy) hM
 refine enter (nt:=16) (rs:=[.cell 4 194]) Proofs.Tryz.func155 rfl rfl rfl (by simp) ?_
 simp -dsimp (disch:=try exact dx) only[wpS,zE,zA,kD]
 have kk : ∀o1 o2 o3,Ext h (((h.new o1).new o2).new o3):=fun o1 o2 o3=>(((Ext.refl h).new _).new _).new _
 refine drawn [(1,[10]),(3,[10])] (by kernel_rfl) (by kernel_rfl) rfl ?_
 simp -dsimp (disch:=try exact dx) only[wpS,zE,dF,ld4,bn4,eP,fQ,tf]
 refine call (EM (hD.ab (kk _ _ _).ab) (hE.ab (kk _ _ _).ab) (by omega)) ?_
 rintro r h1 ⟨hE1,os,hO,hON,hOv⟩
 simp -dsimp (disch:=try exact dx) only[wpS,zE]
 refine call (jN hO _) ?_
 rintro r2 h2 ⟨hE2,hr⟩
 rw[hOv,hx,hy,sign_mul] at hr
 obtain⟨s3,n3,rfl,c3,o3,_,_⟩:=hr.form
 have hg:h2.ext.get (h.n+1+1)=some (.cells [.bool false,.slice none 0 0] 0 none):=by
  have n1:h.n+3≤h1.n:=hE1.n
  rw[hE2.get _ (by omega),hE1.get _ (by simp)];exact aa _ _ rfl
 have r0:h1.row (2*h.n)=some [.bool (decide (x<0)),s]:=by rw[hE1.row (by simp<;>omega)];simp -dsimp (disch:=try exact dx) only[wpS]
 have r1:h1.row (2*(h.n+1))=some [.bool (decide (y<0)),t]:=by rw[hE1.row (by simp<;>omega)];simp -dsimp (disch:=try exact dx) only[wpS]
 simp -dsimp (disch:=try exact dx) only[wpS,wpT,zE,zL,zA,fW,hg,o3]
 refine⟨jG (ak rfl rfl rfl rfl (aA (av:=ptr (2*h.n) 0) (v:=.bool (decide (x<0))) rfl ?_ ?_)) (ak rfl rfl rfl rfl (aA (av:=ptr (2*(h.n+1)) 0) (v:=.bool (decide (y<0))) rfl ?_ ?_)),?_⟩
 ·simp -dsimp (disch:=try exact dx) only[wpS,ld4]
 ·simp -dsimp (disch:=try exact dx) only[wpS,ld4,r0]
 ·simp -dsimp (disch:=try exact dx) only[wpS,ld4]
 ·simp -dsimp (disch:=try exact dx) only[wpS,ld4,r1]
 simp -dsimp (disch:=try exact dx) only[wpS,wpT,zE,zL,zA,bZ]
 exact⟨(((kk _ _ _).trans hE1).trans hE2).put (by omega) _,hr.ab ((aF.refl _).put hg _)⟩
theorem GH {x y:Int} (hy:y≠0) (h : ¬(if decide (x<0)=true then -((x.natAbs % y.natAbs:Nat):Int) else ((x.natAbs % y.natAbs:Nat):Int))<0) :
  (if (decide (x<0) != decide (y<0))=true then -((x.natAbs / y.natAbs:Nat):Int) else ((x.natAbs / y.natAbs:Nat):Int))=x / y∧(if decide (x<0)=true then -((x.natAbs % y.natAbs:Nat):Int) else ((x.natAbs % y.natAbs:Nat):Int))=x % y:=by
 have hb:0<y.natAbs:=by omega
 have h1:=Nat.div_add_mod x.natAbs y.natAbs
 have h2:=Nat.mod_lt x.natAbs hb
 generalize x.natAbs / y.natAbs=q at *
 generalize x.natAbs % y.natAbs=r at *
 have h1':(y.natAbs:Int)*(q:Int)+(r:Int)=(x.natAbs:Int):=by rw[←h1];simp
 have key : ∀y':Int,0<y' → ∀q' r':Int,r'+y'*q'=x→0≤r'→r'<y'→x / y'=q'∧x % y'=r':=fun y' hy' q' r' a b c=>(Int.ediv_emod_unique hy').2 ⟨a,b,c⟩
 rcases Int.lt_or_le x 0 with hx|hx
 ·simp only[hx,decide_true,if_true] at h ⊢
  obtain rfl:r=0:=by omega
  rcases Int.lt_or_le y 0 with hy0|hy0
  ·have a:(x.natAbs:Int) = -x:=by omega
   have b:(y.natAbs:Int) = -y:=by omega
   rw[a,b] at h1'
   obtain⟨k1,k2⟩:=key (-y) (by omega) (-q) 0 (by rw[Int.mul_neg];omega) (by omega) (by omega)
   rw[Int.ediv_neg] at k1
   rw[Int.emod_neg] at k2
   simp only[hy0,decide_true,bne_self_eq_false,Bool.false_eq_true,if_false]
   exact⟨by omega,by omega⟩
  ·have a:(x.natAbs:Int) = -x:=by omega
   have b:(y.natAbs:Int)=y:=by omega
   rw[a,b] at h1'
   obtain⟨k1,k2⟩:=key y (by omega) (-q) 0 (by rw[Int.mul_neg];omega) (by omega) (by omega)
   have : ¬y<0:=by omega
   simp only[this,decide_false,bne_iff_ne,ne_eq,reduceCtorEq,not_false_eq_true,if_true]
   exact⟨by omega,by omega⟩
 ·have hx' : ¬x<0:=by omega
  simp only[hx',decide_false,Bool.false_eq_true,if_false] at h ⊢
  rcases Int.lt_or_le y 0 with hy0|hy0
  ·have a:(x.natAbs:Int)=x:=by omega
   have b:(y.natAbs:Int) = -y:=by omega
   rw[a,b] at h1'
   obtain⟨k1,k2⟩:=key (-y) (by omega) q r (by omega) (by omega) (by omega)
   rw[Int.ediv_neg] at k1
   rw[Int.emod_neg] at k2
   simp only[hy0,decide_true,bne_iff_ne,ne_eq,reduceCtorEq,not_false_eq_true,if_true]
   exact⟨by omega,by omega⟩
  ·have a:(x.natAbs:Int)=x:=by omega
   have b:(y.natAbs:Int)=y:=by omega
   rw[a,b] at h1'
   obtain⟨k1,k2⟩:=key y (by omega) q r (by omega) (by omega) (by omega)
   have : ¬y<0:=by omega
   simp only[this,decide_false,bne_self_eq_false,Bool.false_eq_true,if_false]
   exact⟨by omega,by omega⟩
theorem GG {x y:Int} (hy:y≠0) (h:(if decide (x<0)=true then -((x.natAbs % y.natAbs:Nat):Int) else ((x.natAbs % y.natAbs:Nat):Int))<0) :
  (if (decide (x<0) != decide (y<0))=true then -((x.natAbs / y.natAbs:Nat):Int) else ((x.natAbs / y.natAbs:Nat):Int))+(if y<0 then 1 else -1)=x / y∧(if decide (x<0)=true then -((x.natAbs % y.natAbs:Nat):Int) else ((x.natAbs % y.natAbs:Nat):Int))+(y.natAbs:Int)=x % y:=by
 have hb:0<y.natAbs:=by omega
 have h1:=Nat.div_add_mod x.natAbs y.natAbs
 have h2:=Nat.mod_lt x.natAbs hb
 generalize x.natAbs / y.natAbs=q at *
 generalize x.natAbs % y.natAbs=r at *
 have h1':(y.natAbs:Int)*(q:Int)+(r:Int)=(x.natAbs:Int):=by rw[←h1];simp
 have key : ∀y':Int,0<y' → ∀q' r':Int,r'+y'*q'=x→0≤r'→r'<y'→x / y'=q'∧x % y'=r':=fun y' hy' q' r' a b c=>(Int.ediv_emod_unique hy').2 ⟨a,b,c⟩
 have hx:x<0:=by
  apply Classical.byContradiction;intro hn
  simp only[hn,decide_false,Bool.false_eq_true,if_false] at h
  omega
 simp only[hx,decide_true,if_true] at h ⊢
 have a:(x.natAbs:Int) = -x:=by omega
 rcases Int.lt_or_le y 0 with hy0|hy0
 ·have b:(y.natAbs:Int) = -y:=by omega
  rw[a,b] at h1'
  obtain⟨k1,k2⟩:=key (-y) (by omega) (-(q+1)) (-y - r) (by rw[Int.mul_neg,Int.mul_add];omega) (by omega) (by omega)
  rw[Int.ediv_neg] at k1
  rw[Int.emod_neg] at k2
  simp only[hy0,decide_true,bne_self_eq_false,Bool.false_eq_true,if_false,if_true]
  exact⟨by omega,by omega⟩
 ·have b:(y.natAbs:Int)=y:=by omega
  rw[a,b] at h1'
  obtain⟨k1,k2⟩:=key y (by omega) (-(q+1)) (y - r) (by rw[Int.mul_neg,Int.mul_add];omega) (by omega) (by omega)
  have : ¬y<0:=by omega
  simp only[this,decide_false,bne_iff_ne,ne_eq,reduceCtorEq,not_false_eq_true,if_true,if_false]
  exact⟨by omega,by omega⟩
theorem xR {h:IH} {v w:Value} {x y:Int} (hv:aZ h v x) (hw:aZ h w y) (sx:aS x) (sy:aS y) :
  WV prog (.func (.func 154) #[] #[]) [v,w] h fun r h'=>Ext h h'∧aZ h' r (Int.gcd x y):=by
 obtain⟨s,rfl,hS⟩:=hv
 obtain⟨t,rfl,hT⟩:=hw
 obtain⟨ds,hD,hN,hx⟩:=id hS
 obtain⟨es,hE,hM,hy⟩:=id hT
 refine enter (nt:=26) (rs:=[.cell 4 194]) Proofs.Tryz.func154 rfl rfl rfl (by simp) ?_
 simp -dsimp (disch:=try exact dx) only[wpS,zE,zA,kD,eP,fQ]
 have kk : ∀o1 o2 o3,Ext h (((h.new o1).new o2).new o3):=fun o1 o2 o3=>(((Ext.refl h).new _).new _).new _
 refine loop (fun m fr h1 => ∃(xv yv:Value) (a:Nat),Ext (((h.new (.cells [.bool (decide (x<0)),s] 0 none)).new (.cells [.bool (decide (y<0)),t] 0 none)).new (.cells [.bool false,.slice none 0 0] 0 none)) h1∧Dig h1 xv a∧Dig h1 yv m∧Small a∧Small m∧Nat.gcd a m=Int.gcd x y∧ah fr 4=some (ptr (2*(h.n+1+1)) 0)∧ah fr 5=some xv∧ah fr 6=some yv) y.natAbs
  ⟨s,t,x.natAbs,Ext.refl _,hS.ab (kk _ _ _).ab,hT.ab (kk _ _ _).ab,sx,sy,rfl,by simp,by simp,by simp⟩ ?_
 clear hS hT hD hN hx hE hM hy ds es
 rintro m fr h1 ⟨xv,yv,a,hE1,hA,hB,sa,sb,Fq,f4,f5,f6⟩
 obtain⟨ds,hD,hN,hx⟩:=id hA
 obtain⟨es,hE,hM,hy⟩:=id hB
 have hz:=hM.jM
 rw[hy] at hz
 have l1:ds.length≤1000000:=hN.small (by rw[hx];exact sa)
 have l2:es.length≤1000000:=hM.small (by rw[hy];exact sb)
 by_cases hm:m=0
 ·have hes:es = []:=hz.1 hm
  have Qb:nT prog h1 25 yv=some (.int .i64 ((0:Nat):Int)):=by have:=hE.1.len (P:=prog) cW h1;rw[hes] at this;exact this
  have hg:h1.ext.get (h.n+1+1)=some (.cells [.bool false,.slice none 0 0] 0 none):=by rw[hE1.get _ (by simp)];exact aa _ _ rfl
  simp -dsimp (disch:=try exact dx) only[wpS,wpT,zE,zL,zA,Ho,vv,fW,bZ,f4,f5,f6,Qb,hD.1.cells,hD.1.cok,hg]
  refine⟨((kk _ _ _).trans hE1).put (by omega) _,xv,?_,?_⟩
  ·simp
  ·subst hm
   rw[Nat.gcd_zero_right] at Fq
   rw[Int.natAbs_natCast,←Fq]
   exact hA.ab ((aF.refl _).put hg _)
 ·have hl:0<es.length:=by
   apply Nat.pos_of_ne_zero;intro h0
   exact hm (hz.2 (List.length_eq_zero_iff.1 h0))
  simp -dsimp (disch:=try exact dx) only[wpS,wpT,zE,f5,f6,hE.1.len cW]
  refine call (CQ hD hE hN hM (by rw[hy];exact hm) l1 l2) ?_
  rintro _ h2 ⟨hE2,q,r,rfl,hq,hr⟩
  rw[hx,hy] at hr
  have hlt:=Nat.mod_lt a (Nat.pos_of_ne_zero hm)
  simp -dsimp (disch:=try exact dx) only[wpS,zE,f6]
  refine⟨a % m,hlt,yv,r,m,hE1.trans hE2,hB.ab hE2.ab,hr,sb,sb.le (Nat.le_of_lt hlt),?_,by simp[f4],by simp,by simp⟩
  rw[←Fq,Nat.gcd_comm a m,Nat.gcd_rec m a,Nat.gcd_comm]
theorem vk (b:Bool) (n:Nat):(if b=true then -(n:Int) else (n:Int)).natAbs=n:=by cases b<;>simp
theorem zK {h:IH} {v w:Value} {x y:Int} (hv:aZ h v x) (hw:aZ h w y) (sx:aS x) (sy:aS y) (y0:y≠0) :
  WV prog (.func (.func 153) #[] #[]) [v,w] h fun r h'=>Ext h h' ∧ ∃q t,r=.tuple #[q,t]∧aZ h' q (x / y)∧aZ h' t (x % y):=by
 obtain⟨s,rfl,hS⟩:=hv
 obtain⟨t,rfl,hT⟩:=hw
 obtain⟨ds,hD,hN,hx⟩:=id hS
 obtain⟨es,hE,hM,hy⟩:=id hT
 have l1:ds.length≤1000000:=hN.small (by rw[hx];exact sx)
 have l2:es.length≤1000000:=hM.small (by rw[hy];exact sy)
 refine enter (nt:=46) (rs:=[.cell 4 194,.cell 5 194]) Proofs.Tryz.func153 rfl rfl rfl (by simp) ?_
 simp -dsimp (disch:=try exact dx) only[wpS,zE,zA,kD,eP,fQ]
 have kk : ∀o1 o2 o3 o4,Ext h ((((h.new o1).new o2).new o3).new o4):=fun o1 o2 o3 o4=>((((Ext.refl h).new _).new _).new _).new _
 refine call (CQ (hD.ab (kk _ _ _ _).ab) (hE.ab (kk _ _ _ _).ab) hN hM (by rw[hy];omega) l1 l2) ?_
 rintro _ h1 ⟨hE1,q,r,rfl,⟨qs,hq,hqn,hqv⟩,⟨rs,hr,hrn,hrv⟩⟩
 rw[hx,hy] at hqv hrv
 have n1:h.n+4≤h1.n:=hE1.n
 have g0:h1.ext.get h.n=some (.cells [.bool (decide (x<0)),s] 0 none):=by rw[hE1.get _ (by simp<;>omega)];simp (disch:=try exact dx) only[aa,ao]
 have g1:h1.ext.get (h.n+1)=some (.cells [.bool (decide (y<0)),t] 0 none):=by rw[hE1.get _ (by simp<;>omega)];simp (disch:=try exact dx) only[aa,ao]
 have g2:h1.ext.get (h.n+1+1)=some (.cells [.bool false,.slice none 0 0] 0 none):=by rw[hE1.get _ (by simp<;>omega)];simp (disch:=try exact dx) only[aa,ao]
 have g3:h1.ext.get (h.n+1+1+1)=some (.cells [.bool false,.slice none 0 0] 0 none):=by rw[hE1.get _ (by simp<;>omega)];simp (disch:=try exact dx) only[aa]
 have x1:Ext h h1:=(kk _ _ _ _).trans hE1
 have eT1:=hE.ab x1.ab
 clear hE1 kk
 have r0:=bg g0
 have r1:=bg g1
 simp -dsimp (disch:=try exact dx) only[wpS,zE]
 refine drawn [(8,[6])] (by kernel_rfl) (by kernel_rfl) rfl ?_
 simp -dsimp (disch:=try exact dx) only[wpS,zE,dF,ld4,bn4,r0,r1,tf]
 refine call (jN hq _) ?_
 rintro q2 h2 ⟨hE2,hq2⟩
 have r02:h2.row (2*h.n)=some [.bool (decide (x<0)),s]:=by rw[hE2.row (.inr (by omega))];exact r0
 simp -dsimp (disch:=try exact dx) only[wpS,zE,dF,ld4,r02]
 refine call (jN (hr.ab hE2.ab) _) ?_
 rintro t2 h3 ⟨hE3,ht2⟩
 rw[hqv] at hq2
 rw[hrv] at ht2
 have pa:=GH (x:=x) y0
 have pb:=GG (x:=x) y0
 have aQ:=vk (decide (x<0) != decide (y<0)) (x.natAbs / y.natAbs)
 have aR:=vk (decide (x<0)) (x.natAbs % y.natAbs)
 generalize (if (decide (x<0) != decide (y<0))=true then -((x.natAbs / y.natAbs:Nat):Int) else ((x.natAbs / y.natAbs:Nat):Int))=Q at *
 generalize (if decide (x<0)=true then -((x.natAbs % y.natAbs:Nat):Int) else ((x.natAbs % y.natAbs:Nat):Int))=R at *
 have sQ:aS Q:=Small.le sx (by rw[aQ];exact Nat.div_le_self _ _)
 have sR:aS R:=Small.le sy (by rw[aR];exact Nat.le_of_lt (Nat.mod_lt _ (by omega)))
 obtain⟨sq,n3,rfl,c3,o3,_,_⟩:=hq2.form
 obtain⟨st,n4,rfl,c4,o4,_,_⟩:=ht2.form
 have x3:Ext h h3:=(x1.trans hE2).trans hE3
 have n2:=hE2.n
 have n3':=hE3.n
 simp -dsimp (disch:=try exact dx) only[wpS,wpT,zE,zL,zA,kD,fW,o3,o4]
 refine⟨ak rfl rfl rfl rfl (aA (av:=ptr (2*h.n) 0) (v:=.bool (decide (x<0))) rfl ?_ ?_),?_⟩
 ·simp -dsimp (disch:=try exact dx) only[wpS,ld4,r02]
 ·simp -dsimp (disch:=try exact dx) only[wpS,ld4,r0]
 simp -dsimp (disch:=try exact dx) only[wpS,wpT,zE,zA,dF,ld4]
 have e4:Ext h3 ((((h3.new (.cells [.bool false,.slice none 0 0] 0 none)).new (.cells [.bool false,.slice none 0 0] 0 none)).put h3.n (.cells [.bool (decide (Q<0)),sq] 0 none)).put (h3.n+1) (.cells [.bool (decide (R<0)),st] 0 none)):=((((Ext.refl h3).new _).new _).put (Nat.le_refl _) _).put (by omega) _
 have g8:((((h3.new (.cells [.bool false,.slice none 0 0] 0 none)).new (.cells [.bool false,.slice none 0 0] 0 none)).put h3.n (.cells [.bool (decide (Q<0)),sq] 0 none)).put (h3.n+1) (.cells [.bool (decide (R<0)),st] 0 none)).ext.get h3.n=some (.cells [.bool (decide (Q<0)),sq] 0 none):=by simp (disch:=try exact dx) only[ad,ae]
 have g9:((((h3.new (.cells [.bool false,.slice none 0 0] 0 none)).new (.cells [.bool false,.slice none 0 0] 0 none)).put h3.n (.cells [.bool (decide (Q<0)),sq] 0 none)).put (h3.n+1) (.cells [.bool (decide (R<0)),st] 0 none)).ext.get (h3.n+1)=some (.cells [.bool (decide (R<0)),st] 0 none):=by simp (disch:=try exact dx) only[ad]
 have n5:((((h3.new (.cells [.bool false,.slice none 0 0] 0 none)).new (.cells [.bool false,.slice none 0 0] 0 none)).put h3.n (.cells [.bool (decide (Q<0)),sq] 0 none)).put (h3.n+1) (.cells [.bool (decide (R<0)),st] 0 none)).n=h3.n+2:=rfl
 have hQ0:=hq2.ab (hE3.trans e4).ab
 have hR0:=ht2.ab e4.ab
 have x4:=x3.trans e4
 have x14:Ext h1 _:=(hE2.trans hE3).trans e4
 generalize ((((h3.new (.cells [.bool false,.slice none 0 0] 0 none)).new (.cells [.bool false,.slice none 0 0] 0 none)).put h3.n (.cells [.bool (decide (Q<0)),sq] 0 none)).put (h3.n+1) (.cells [.bool (decide (R<0)),st] 0 none))=h4 at *
 have r9:=bg g9
 refine fR (fun fr2 h5 => ∃sq st,Ext h1 h5∧h3.n+2≤h5.n∧h5.ext.get h3.n=some (.cells [.bool (decide (x / y<0)),sq] 0 none)∧h5.ext.get (h3.n+1)=some (.cells [.bool (decide (x % y<0)),st] 0 none)∧aZ h5 (.agg #[.bool (decide (x / y<0)),sq]) (x / y)∧aZ h5 (.agg #[.bool (decide (x % y<0)),st]) (x % y) ∧
  ah fr2 4=some (ptr (2*(h.n+1+1)) 0)∧ah fr2 5=some (ptr (2*(h.n+1+1+1)) 0)∧ah fr2 8=some (ptr (2*h3.n) 0)∧ah fr2 9=some (ptr (2*(h3.n+1)) 0)) (fun hb=>?_) (fun hb=>?_) ?_
 ·have hb':R<0:=by simpa using hb
  obtain⟨b1,b2⟩:=pb hb'
  have g1':=(x14.get _ (by omega)).trans g1
  have r1':=bg g1'
  rw[decide_eq_true hb'] at hR0
  simp -dsimp (disch:=try exact dx) only[wpS,wpT,zE,zL,zA,eP,fQ,bZ,Ho,vv,r9,r1',List.drop_zero,dQ,hE.1.cells]
  have hY:aZ h4 (.agg #[.bool false,t]) (y.natAbs:Int):=⟨t,by simp,by rw[Int.natAbs_natCast];exact⟨es,eT1.ab x14.ab,hM,hy⟩⟩
  refine call (vu hR0 hY sR (iF sy)) ?_
  rintro t5 h5 ⟨hE5,ht5⟩
  rw[b2] at ht5
  obtain⟨s5,_,rfl,c5,o5,_,_⟩:=ht5.form
  have g9':=(hE5.get _ (by omega)).trans g9
  have g8':=(hE5.get _ (by omega)).trans g8
  have UQ:=(hE5.get _ (by omega)).trans g1'
  have T3:=bg UQ
  have r8':=bg g8'
  have n6:=hE5.n
  simp -dsimp (disch:=try exact dx) only[wpS,wpT,zE,zL,zA,dF,ld4,fW,g9',o5,T3]
  have kp5:=(aF.refl h5).put g9' (.cells [.bool (decide (x % y<0)),s5] 0 none)
  refine ax (fun hby=>?_) (fun hby=>?_)
  ·simp only[decide_eq_true_eq] at hby
   refine drawn [(0,[2])] (by kernel_rfl) (by kernel_rfl) rfl ?_
   simp -dsimp (disch:=try exact dx) only[wpS,wpT,zE,zL,zA,bZ,r8',List.drop_zero,dQ]
   refine call (oL 1 ⟨by omega,by omega⟩) ?_
   rintro o1 h6 ⟨hE6,ho1⟩
   simp -dsimp (disch:=try exact dx) only[wpS,zE]
   refine call (vu (hQ0.ab ((hE5.ab.trans kp5).trans hE6.ab)) ho1 sQ (iF (AW))) ?_
   rintro q6 h7 ⟨hE7,hq6⟩
   rw[show Q+1=x / y by rw[←b1];simp only[hby,if_true]<;>omega] at hq6
   obtain⟨s6,_,rfl,c6,o6,_,_⟩:=hq6.form
   have g8a:=(hE6.get _ (by simp only[aq];omega)).trans ((ae h5 (.cells [.bool (decide (x % y<0)),s5] 0 none) (show h3.n≠h3.n+1 by omega)).trans g8')
   have g8b:=(hE7.get _ (by have:=hE6.n;simp only[aq] at this;omega)).trans g8a
   have g9b:=(hE7.get (h3.n+1) (by have:=hE6.n;simp only[aq] at this;omega)).trans ((hE6.get _ (by simp only[aq];omega)).trans (ad h5 (.cells [.bool (decide (x % y<0)),s5] 0 none) rfl))
   have r8a:=bg g8a
   simp -dsimp (disch:=try exact dx) only[wpS,wpT,zE,zL,zA,fW,g8b,o6]
   refine⟨ak rfl rfl rfl rfl (aA (av:=ptr (2*h3.n) 0) (v:=.agg #[.bool (decide (Q<0)),sq]) rfl ?_ ?_),?_⟩
   ·simp -dsimp (disch:=try exact dx) only[wpS,wpT,zL,zA,bZ,r8',List.drop_zero,dQ]
   ·simp -dsimp (disch:=try exact dx) only[wpS,wpT,zL,zA,bZ,r8a,List.drop_zero,dQ]
   simp -dsimp (disch:=try exact dx) only[wpS,wpT,zA]
   have k7:=(aF.refl h7).put g8b (.cells [.bool (decide (x / y<0)),s6] 0 none)
   have x7:Ext h1 (h5.put (h3.n+1) (.cells [.bool (decide (x % y<0)),s5] 0 none)):=(x14.trans hE5).put (by omega) _
   have n7:=hE6.n
   have n8:=hE7.n
   simp only[aq] at n7
   refine⟨s6,s5,((x7.trans hE6).trans hE7).put (by omega) _,by simp only[aq];omega,ad _ _ rfl,by rw[ae _ _ (by omega)];exact g9b,hq6.ab k7,ht5.ab ((kp5.trans (hE6.trans hE7).ab).trans k7),?_,?_,?_,?_⟩<;>simp
  ·simp only[decide_eq_false_iff_not] at hby
   refine drawn [(0,[2])] (by kernel_rfl) (by kernel_rfl) rfl ?_
   simp -dsimp (disch:=try exact dx) only[wpS,wpT,zE,zL,zA,bZ,r8',List.drop_zero,dQ]
   refine call (oL 1 ⟨by omega,by omega⟩) ?_
   rintro o1 h6 ⟨hE6,ho1⟩
   simp -dsimp (disch:=try exact dx) only[wpS,zE]
   refine call (C6 (hQ0.ab ((hE5.ab.trans kp5).trans hE6.ab)) ho1 sQ (iF (AW))) ?_
   rintro q6 h7 ⟨hE7,hq6⟩
   rw[show Q - 1=x / y by rw[←b1];simp only[hby,if_false]<;>omega] at hq6
   obtain⟨s6,_,rfl,c6,o6,_,_⟩:=hq6.form
   have g8a:=(hE6.get _ (by simp only[aq];omega)).trans ((ae h5 (.cells [.bool (decide (x % y<0)),s5] 0 none) (show h3.n≠h3.n+1 by omega)).trans g8')
   have g8b:=(hE7.get _ (by have:=hE6.n;simp only[aq] at this;omega)).trans g8a
   have g9b:=(hE7.get (h3.n+1) (by have:=hE6.n;simp only[aq] at this;omega)).trans ((hE6.get _ (by simp only[aq];omega)).trans (ad h5 (.cells [.bool (decide (x % y<0)),s5] 0 none) rfl))
   have r8a:=bg g8a
   simp -dsimp (disch:=try exact dx) only[wpS,wpT,zE,zL,zA,fW,g8b,o6]
   refine⟨ak rfl rfl rfl rfl (aA (av:=ptr (2*h3.n) 0) (v:=.agg #[.bool (decide (Q<0)),sq]) rfl ?_ ?_),?_⟩
   ·simp -dsimp (disch:=try exact dx) only[wpS,wpT,zL,zA,bZ,r8',List.drop_zero,dQ]
   ·simp -dsimp (disch:=try exact dx) only[wpS,wpT,zL,zA,bZ,r8a,List.drop_zero,dQ]
   simp -dsimp (disch:=try exact dx) only[wpS,wpT,zA]
   have k7:=(aF.refl h7).put g8b (.cells [.bool (decide (x / y<0)),s6] 0 none)
   have x7:Ext h1 (h5.put (h3.n+1) (.cells [.bool (decide (x % y<0)),s5] 0 none)):=(x14.trans hE5).put (by omega) _
   have n7:=hE6.n
   have n8:=hE7.n
   simp only[aq] at n7
   refine⟨s6,s5,((x7.trans hE6).trans hE7).put (by omega) _,by simp only[aq];omega,ad _ _ rfl,by rw[ae _ _ (by omega)];exact g9b,hq6.ab k7,ht5.ab ((kp5.trans (hE6.trans hE7).ab).trans k7),?_,?_,?_,?_⟩<;>simp
 ·have hb' : ¬R<0:=by simpa using hb
  obtain⟨b1,b2⟩:=pa hb'
  simp -dsimp (disch:=try exact dx) only[wpS,wpT]
  subst b1;subst b2
  exact⟨sq,st,x14,by omega,g8,g9,hQ0,hR0,by simp,by simp,by simp,by simp⟩
 rintro fr2 h5 ⟨sq,st,x5,n6,k8,k9,hQ,hR,f4,f5,f8,f9⟩
 have k2:=(x5.get _ (by omega)).trans g2
 have k3:=(x5.get _ (by omega)).trans g3
 have q8:=bg k8
 have q9:=bg k9
 obtain⟨s8,n8,e8,c8,o8,_,_⟩:=hQ.form
 obtain⟨s9,n9,e9,c9,o9,_,_⟩:=hR.form
 cases e8
 cases e9
 rw[kf]
 refine drawn [(1,[3])] (by kernel_rfl) (by kernel_rfl) rfl ?_
 simp -dsimp (disch:=try exact dx) only[wpS,wpT,zE,zL,zA,fW,bZ,f4,f5,f8,f9,q8,q9,k2,k3,o8,o9,List.drop_zero,dQ]
 have k5:=(aF.refl h5).put k2 (.cells [.bool (decide (x / y<0)),sq] 0 none)
 have k3':(h5.put (h.n+1+1) (.cells [.bool (decide (x / y<0)),sq] 0 none)).ext.get (h.n+1+1+1)=some (.cells [.bool false,.slice none 0 0] 0 none):=by rw[ae _ _ (by omega)];exact k3
 have k6:=k5.put k3' (.cells [.bool (decide (x % y<0)),st] 0 none)
 refine⟨ak rfl rfl rfl rfl (aA (av:=ptr (2*(h3.n+1)) 0) (v:=.agg #[.bool (decide (x % y<0)),st]) ?_ ?_ ?_),?_⟩
 ·simp -dsimp (disch:=try exact dx) only[wpS,zE,f9]
 ·simp -dsimp (disch:=try exact dx) only[wpS,wpT,zL,zA,bZ,q9,List.drop_zero,dQ]
 ·simp -dsimp (disch:=try exact dx) only[wpS,wpT,zL,zA,bZ,q9,List.drop_zero,dQ]
 simp -dsimp (disch:=try exact dx) only[wpS,wpT,zE,zL,zA,bZ,f4,f5,List.drop_zero,dQ]
 exact⟨((x1.trans x5).put (by omega) _).put (by omega) _,_,_,rfl,hQ.ab k6,hR.ab k6⟩
end Go.Id

namespace Go.Id
open Go
open Go.Proofs.Tryz (prog)
open Nat renaming reduceAdd→zA,reduceEqDiff→zE,reduceLeDiff→zL
set_option maxHeartbeats 16000000
theorem mu {ds:List Nat} (n:B.Norm ds) (h:Small (B.au ds)):ds.length≤1000000:=by
 refine n.GQ (Nat.lt_of_lt_of_le h.lt ?_)
 exact CP 4294967296 18446744073709551616 1000000 (by decide)
theorem GZ {ds:List Nat} (n:B.Norm ds) (h:pW (B.au ds)):ds.length≤500000:=by
 refine n.GQ (Nat.lt_of_lt_of_le h.lt ?_)
 exact CP 4294967296 18446744073709551616 500000 (by decide)
abbrev ZL:List Value:=[.bool false,.slice none 0 0]
theorem nc {h:IH} {v:Value} {z:Int} (hv:bq h v z):WV prog (.func (.func 187) #[] #[]) [v] h fun r h'=>Ext h h'∧bq h' r (-z):=by
 obtain⟨s,rfl,ds,hD,hN,hx⟩:=hv
 refine enter (nt:=9) (rs:=[.cell 2 137]) Proofs.Tryz.func187 rfl rfl rfl (by simp) ?_
 simp -dsimp (disch:=try exact dx) only[wpS,zE,fU,ic,ld4,iZ,oM]
 refine call (fD (hD.ab (((aF.refl h).new _).new _)) _) ?_
 rintro r h1 ⟨hE,h2⟩
 have hz:(if (!decide (z<0))=true then -(B.au ds:Int) else B.au ds) = -z:=by
  by_cases h0:z<0<;>simp[h0]<;>omega
 rw[hz] at h2
 obtain⟨s1,n1,rfl,c1,o1,_,_⟩:=h2.form
 have n1:=(hE).n;try simp only[al] at n1
 have hg:h1.ext.get (h.n+1)=some (.cells ZL 0 none):=by rw[hE.get _ (by simp)];simp (disch:=try exact dx) only[aa]
 simp -dsimp (disch:=try exact dx) only[wpS,wpT,zE,zL,zA,dI,bh,hg,o1]
 exact⟨((((Ext.refl h).new _).new _).trans hE).put (by omega) _,h2.ab ((aF.refl _).put hg _)⟩
theorem rY {h:IH} {v w:Value} {x y:Int} (hv:bq h v x) (hw:bq h w y) (sx:aS x) (sy:aS y) :
  WV prog (.func (.func 217) #[] #[]) [v,w] h fun r h'=>Ext h h'∧bq h' r (x+y):=by
 obtain⟨s,rfl,a,ha,na,hx⟩:=hv
 obtain⟨t,rfl,b,hb,nb,hy⟩:=hw
 have la:a.length≤1000000:=mu na (by rw[hx];exact sx)
 have lb:b.length≤1000000:=mu nb (by rw[hy];exact sy)
 refine enter (nt:=34) (rs:=[.cell 4 137]) Proofs.Tryz.func217 rfl rfl rfl (by simp) ?_
 simp -dsimp (disch:=try exact dx) only[wpS,zE,zA,fU,ic,ld4,be4]
 have ee : ∀o1 o2 o3,Ext h (((h.new o1).new o2).new o3):=fun o1 o2 o3=>(((Ext.refl h).new _).new _).new _
 refine ax (fun hc=>?_) (fun hc=>?_)
 ·have hc:(x<0↔y<0):=by simpa using hc
  simp -dsimp (disch:=try exact dx) only[wpS]
  refine drawn [(1,[7])] (by kernel_rfl) (by kernel_rfl) rfl ?_
  simp -dsimp (disch:=try exact dx) only[wpS,zE,ic,ld4,iZ,oM]
  refine call (ME (ha.ab (ee _ _ _).ab) (hb.ab (ee _ _ _).ab) (by omega) (by omega)) ?_
  rintro r h1 ⟨hE,os,hD,oO⟩
  simp -dsimp (disch:=try exact dx) only[wpS,zE]
  refine call (fD hD _) ?_
  rintro r2 h2 ⟨hE2,hr⟩
  have hz:(if decide (x<0)=true then -(B.au os:Int) else B.au os)=x+y:=by
   by_cases h0:x<0<;>simp[h0]<;>omega
  rw[hz] at hr
  obtain⟨s1,n1,rfl,c1,o1,_,_⟩:=hr.form
  have m1:=(hE).n;try simp only[al] at m1
  have m2:=(hE2).n;try simp only[al,aq] at m2
  have hg:h2.ext.get (h.n+1+1)=some (.cells ZL 0 none):=by rw[hE2.get _ (by omega),hE.get _ (by simp)];simp (disch:=try exact dx) only[aa]
  have hr0:h1.row (2*h.n)=some [.bool (decide (x<0)),s]:=by
   rw[hE.row (by simp<;>omega)];simp -dsimp (disch:=try exact dx) only[wpS]
  simp -dsimp (disch:=try exact dx) only[wpS,wpT,zE,zL,zA,dI,hg,o1]
  refine⟨ak rfl rfl rfl rfl (aA (av:=ptr (2*h.n) 0) (v:=.bool (decide (x<0))) rfl ?_ ?_),?_⟩
  ·simp -dsimp (disch:=try exact dx) only[wpS,ld4]
  ·simp -dsimp (disch:=try exact dx) only[wpS,ld4,hr0]
  ·simp -dsimp (disch:=try exact dx) only[wpS,wpT,zE,zL,zA,bh]
   exact⟨(((ee _ _ _).trans hE).trans hE2).put (by omega) _,hr.ab ((aF.refl _).put hg _)⟩
 ·have hc : ¬(x<0↔y<0):=by simpa using hc
  simp -dsimp (disch:=try exact dx) only[wpS,zE,iZ,oM]
  refine call (uL (ha.ab (ee _ _ _).ab) (hb.ab (ee _ _ _).ab) na nb) ?_
  rintro r h1 ⟨rfl,c,rfl,hc1,hc2,hc3,hc4⟩
  simp -dsimp (disch:=try exact dx) only[wpS,zE]
  refine fR (fun fr2 h4 => ∃(p q:Int) (sp sq:Value) (ps qs:List Nat),Ext h h4∧h.n+3≤h4.n∧h4.ext.get h.n=some (.cells [.bool (decide (p<0)),sp] 0 none)∧h4.ext.get (h.n+1)=some (.cells [.bool (decide (q<0)),sq] 0 none)∧h4.ext.get (h.n+1+1)=some (.cells ZL 0 none) ∧
   gu h4 sp ps∧gu h4 sq qs∧B.Norm ps∧B.Norm qs∧B.au ps=p.natAbs∧B.au qs=q.natAbs∧q.natAbs≤p.natAbs∧p+q=x+y ∧ ¬(p<0↔q<0)∧ah fr2 2=some (ptr (2*h.n) 0)∧ah fr2 3=some (ptr (2*(h.n+1)) 0)∧ah fr2 4=some (ptr (2*(h.n+1+1)) 0)) (fun hc5=>?_) (fun hc5=>?_) ?_
  ·simp only[decide_eq_true_eq] at hc5
   simp -dsimp (disch:=try exact dx) only[wpS,wpT,zE,zL,zA,dI,bh,List.drop_zero,dQ,ha.1.cok,hb.1.cok]
   have g0:(((h.new (.cells [.bool (decide (x<0)),s] 0 none)).new (.cells [.bool (decide (y<0)),t] 0 none)).new (.cells [.bool false,.slice none 0 0] 0 none)).ext.get h.n=some (.cells [.bool (decide (x<0)),s] 0 none):=by simp (disch:=try exact dx) only[aa,ao]
   have g1:((((h.new (.cells [.bool (decide (x<0)),s] 0 none)).new (.cells [.bool (decide (y<0)),t] 0 none)).new (.cells [.bool false,.slice none 0 0] 0 none)).put h.n (.cells [.bool (decide (y<0)),t] 0 none)).ext.get (h.n+1)=some (.cells [.bool (decide (y<0)),t] 0 none):=by simp (disch:=try exact dx) only[aa,ao,ae]
   have kp:=((ee _ _ _).ab.put g0 (.cells [.bool (decide (y<0)),t] 0 none)).put g1 (.cells [.bool (decide (x<0)),s] 0 none)
   refine⟨y,x,t,s,b,a,((ee _ _ _).put (Nat.le_refl _) _).put (by omega) _,by simp<;>omega,by simp (disch:=try exact dx) only[ad,ae],by simp (disch:=try exact dx) only[ad],by simp (disch:=try exact dx) only[aa,ae],hb.ab kp,ha.ab kp,nb,na,hy,hx,by omega,by omega,by omega,by simp,by simp,by simp⟩
  ·simp only[decide_eq_false_iff_not] at hc5
   simp -dsimp (disch:=try exact dx) only[wpS,wpT]
   exact⟨x,y,s,t,a,b,ee _ _ _,by simp<;>omega,by simp (disch:=try exact dx) only[aa,ao],by simp (disch:=try exact dx) only[aa,ao],by simp (disch:=try exact dx) only[aa],ha.ab (ee _ _ _).ab,hb.ab (ee _ _ _).ab,na,nb,hx,hy,by omega,rfl,hc,by simp,by simp,by simp⟩
  rintro fr h4 ⟨p,q,sp,sq,ps,qs,hE4,hn4,g0,g1,g2,hp,hq,np,nq,vp,vq,hle,Ds,hsg,f2,f3,f4⟩
  have r0:=bg g0
  have r1:=bg g1
  rw[kf]
  refine drawn [(1,[7])] (by kernel_rfl) (by kernel_rfl) rfl ?_
  simp -dsimp (disch:=try exact dx) only[wpS,zE,ic,ld4,iZ,oM,f2,f3,r0,r1]
  refine call (Cm hp hq nq (by omega)) ?_
  rintro r h5 ⟨hE5,os,rfl,hD,oO⟩
  simp -dsimp (disch:=try exact dx) only[wpS,zE]
  refine call (fD hD _) ?_
  rintro r2 h6 ⟨hE6,hr⟩
  have hz:(if decide (p<0)=true then -(B.au os:Int) else B.au os)=x+y:=by
   by_cases h0:p<0<;>simp[h0]<;>omega
  rw[hz] at hr
  obtain⟨s1,n1,rfl,c1,o1,_,_⟩:=hr.form
  have m1:=(hE5).n;try simp only[al,aq] at m1
  have m2:=(hE6).n;try simp only[al,aq] at m2
  have hg:h6.ext.get (h.n+1+1)=some (.cells ZL 0 none):=by rw[hE6.get _ (by omega),hE5.get _ (by omega)];exact g2
  have hr0:h5.row (2*h.n)=some [.bool (decide (p<0)),sp]:=bg ((hE5.get _ (by omega)).trans g0)
  simp -dsimp (disch:=try exact dx) only[wpS,wpT,zE,zL,zA,dI,f4,hg,o1]
  refine⟨ak rfl rfl rfl rfl (aA (av:=ptr (2*h.n) 0) (v:=.bool (decide (p<0))) ?_ ?_ ?_),?_⟩
  ·simp -dsimp (disch:=try exact dx) only[wpS]
  ·simp -dsimp (disch:=try exact dx) only[wpS,ld4,r0]
  ·simp -dsimp (disch:=try exact dx) only[wpS,ld4,hr0]
  ·simp -dsimp (disch:=try exact dx) only[wpS,wpT,zE,zL,zA,bh,f4]
   exact⟨((hE4.trans hE5).trans hE6).put (by omega) _,hr.ab ((aF.refl _).put hg _)⟩
theorem Is {h:IH} {v w:Value} {x y:Int} (hv:bq h v x) (hw:bq h w y) (sx:aS x) (sy:aS y) :
  WV prog (.func (.func 243) #[] #[]) [v,w] h fun r h'=>Ext h h'∧bq h' r (x - y):=by
 obtain⟨s,n1,rfl,c1,o1,l1,z1⟩:=hv.form
 obtain⟨t,n2,rfl,c2,o2,l2,z2⟩:=hw.form
 refine enter (nt:=9) (rs:=[.cell 4 137]) Proofs.Tryz.func243 rfl rfl rfl (by simp) ?_
 simp -dsimp (disch:=try exact dx) only[wpS,zE,zA,fU]
 have ee : ∀o1 o2 o3,Ext h (((h.new o1).new o2).new o3):=fun o1 o2 o3=>(((Ext.refl h).new _).new _).new _
 refine drawn [(0,[3])] (by kernel_rfl) (by kernel_rfl) rfl ?_
 simp -dsimp (disch:=try exact dx) only[wpS,wpT,zE,zL,zA,bh]
 refine call (nc (hw.ab (ee _ _ _).ab)) ?_
 rintro r h1 ⟨hE,hT⟩
 simp -dsimp (disch:=try exact dx) only[wpS,zE]
 refine call (rY (hv.ab ((ee _ _ _).trans hE).ab) hT sx (by rw[aS,Int.natAbs_neg];exact sy)) ?_
 rintro r2 h2 ⟨hE2,hr⟩
 obtain⟨s1,n3,rfl,c3,o3,l3,z3⟩:=hr.form
 have m1:=(hE).n;try simp only[al] at m1
 have m2:=(hE2).n;try simp only[al,aq] at m2
 have hg:h2.ext.get (h.n+1+1)=some (.cells ZL 0 none):=by rw[hE2.get _ (by omega),hE.get _ (by simp)];simp (disch:=try exact dx) only[aa]
 have hr0:h1.row (2*h.n)=some [.bool (decide (x<0)),s]:=by
  rw[hE.row (by simp<;>omega)];simp -dsimp (disch:=try exact dx) only[wpS]
 simp -dsimp (disch:=try exact dx) only[wpS,wpT,zE,zL,zA,dI,hg,o3]
 refine⟨ak rfl rfl rfl rfl (aA (av:=ptr (2*h.n) 0) (v:=.agg #[.bool (decide (x<0)),s]) rfl ?_ ?_),?_⟩
 ·simp -dsimp (disch:=try exact dx) only[wpS,wpT,zL,zA,bh]
  rfl
 ·simp -dsimp (disch:=try exact dx) only[wpS,wpT,zL,zA,bh,hr0]
  rfl
 ·simp -dsimp (disch:=try exact dx) only[wpS,wpT,zE,zL,zA,bh]
  refine⟨(((ee _ _ _).trans hE).trans hE2).put (by omega) _,?_⟩
  have:x + -y=x - y:=by omega
  rw[this] at hr ⊢
  exact hr.ab ((aF.refl _).put hg _)
theorem dL {h:IH} {v w:Value} {x y:Int} (hv:bq h v x) (hw:bq h w y) (sx:ku x) (sy:ku y) :
  WV prog (.func (.func 87) #[] #[]) [v,w] h fun r h'=>Ext h h'∧bq h' r (x*y):=by
 obtain⟨s,rfl,ds,hD,hN,hx⟩:=hv
 obtain⟨t,rfl,es,hE,hM,hy⟩:=hw
 have l1:ds.length≤500000:=GZ hN (by rw[hx];exact sx)
 have l2:es.length≤500000:=GZ hM (by rw[hy];exact sy)
 refine enter (nt:=16) (rs:=[.cell 4 137]) Proofs.Tryz.func87 rfl rfl rfl (by simp) ?_
 simp -dsimp (disch:=try exact dx) only[wpS,zE,zA,fU]
 have kk : ∀o1 o2 o3,Ext h (((h.new o1).new o2).new o3):=fun o1 o2 o3=>(((Ext.refl h).new _).new _).new _
 refine drawn [(1,[10]),(3,[10])] (by kernel_rfl) (by kernel_rfl) rfl ?_
 simp -dsimp (disch:=try exact dx) only[wpS,zE,ic,ld4,bn4,iZ,oM,tf]
 refine call (yK (hD.ab (kk _ _ _).ab) (hE.ab (kk _ _ _).ab) (by omega)) ?_
 rintro r h1 ⟨hE1,os,hO,hOv⟩
 simp -dsimp (disch:=try exact dx) only[wpS,zE]
 refine call (fD hO _) ?_
 rintro r2 h2 ⟨hE2,hr⟩
 rw[hOv,hx,hy,sign_mul] at hr
 obtain⟨s3,n3,rfl,c3,o3,_,_⟩:=hr.form
 have m1:=(hE1).n;try simp only[al] at m1
 have m2:=(hE2).n;try simp only[al,aq] at m2
 have hg:h2.ext.get (h.n+1+1)=some (.cells ZL 0 none):=by
  rw[hE2.get _ (by omega),hE1.get _ (by simp)];exact aa _ _ rfl
 have r0:h1.row (2*h.n)=some [.bool (decide (x<0)),s]:=by rw[hE1.row (by simp<;>omega)];simp -dsimp (disch:=try exact dx) only[wpS]
 have r1:h1.row (2*(h.n+1))=some [.bool (decide (y<0)),t]:=by rw[hE1.row (by simp<;>omega)];simp -dsimp (disch:=try exact dx) only[wpS]
 simp -dsimp (disch:=try exact dx) only[wpS,wpT,zE,zL,zA,dI,hg,o3]
 refine⟨jG (ak rfl rfl rfl rfl (aA (av:=ptr (2*h.n) 0) (v:=.bool (decide (x<0))) rfl ?_ ?_)) (ak rfl rfl rfl rfl (aA (av:=ptr (2*(h.n+1)) 0) (v:=.bool (decide (y<0))) rfl ?_ ?_)),?_⟩
 ·simp -dsimp (disch:=try exact dx) only[wpS,ld4]
 ·simp -dsimp (disch:=try exact dx) only[wpS,ld4,r0]
 ·simp -dsimp (disch:=try exact dx) only[wpS,ld4]
 ·simp -dsimp (disch:=try exact dx) only[wpS,ld4,r1]
 simp -dsimp (disch:=try exact dx) only[wpS,wpT,zE,zL,zA,bh]
 exact⟨(((kk _ _ _).trans hE1).trans hE2).put (by omega) _,hr.ab ((aF.refl _).put hg _)⟩
theorem rV {h:IH} {v:Value} {z:Int} (hv:bq h v z):WV prog (.func (.func 77) #[] #[]) [v] h fun r h'=>Ext h h'∧r=KI (if z<0 then -1 else if z=0 then 0 else 1):=by
 obtain⟨s,n1,rfl,c1,o1,l1,z1⟩:=hv.form
 refine enter (nt:=11) (rs:=[.tmp 2]) Proofs.Tryz.func77 rfl rfl rfl (by simp) ?_
 simp -dsimp (disch:=try exact dx) only[wpS,zE,ic,ld4]
 refine ax ?_ ?_<;>intro hc<;>simp only[decide_eq_true_eq,decide_eq_false_iff_not] at hc
 ·simp -dsimp (disch:=try exact dx) only[wpS,wpT,zE]
  refine⟨(Ext.refl h).new _,?_⟩
  rw[if_pos hc]
 ·simp -dsimp (disch:=try exact dx) only[wpS,wpT,zE,iZ,oM,l1 ff]
  refine ax ?_ ?_<;>intro hc2<;>simp only[beq_iff_eq,beq_eq_false_iff_ne,ne_eq] at hc2
  ·simp -dsimp (disch:=try exact dx) only[wpS,wpT,zE]
   refine⟨(Ext.refl h).new _,?_⟩
   rw[if_neg (by omega),if_pos (by omega)]
  ·simp -dsimp (disch:=try exact dx) only[wpS,wpT]
   refine⟨(Ext.refl h).new _,?_⟩
   rw[if_neg (by omega),if_neg (by omega)]
theorem GF {h:IH} {v w:Value} {x y:Int} (hv:bq h v x) (hw:bq h w y) (sx:aS x) (sy:aS y) :
  WV prog (.func (.func 177) #[] #[]) [v,w] h fun r h'=>Ext h h'∧r=KI (if x<y then -1 else if x=y then 0 else 1):=by
 obtain⟨s,n1,rfl,c1,o1,l1,z1⟩:=hv.form
 obtain⟨t,n2,rfl,c2,o2,l2,z2⟩:=hw.form
 refine enter (nt:=9) (rs:=[.tmp 4]) Proofs.Tryz.func177 rfl rfl rfl (by simp) ?_
 simp -dsimp (disch:=try exact dx) only[wpS,wpT,zE,zL,zA,bh]
 have e2 : ∀o1 o2,Ext h ((h.new o1).new o2):=fun o1 o2=>((Ext.refl h).new _).new _
 refine call (Is (hv.ab (e2 _ _).ab) (hw.ab (e2 _ _).ab) sx sy) ?_
 rintro r h1 ⟨hE,hr⟩
 simp -dsimp (disch:=try exact dx) only[wpS,zE]
 refine call (rV hr) ?_
 rintro _ h2 ⟨hE2,rfl⟩
 simp -dsimp (disch:=try exact dx) only[wpS,zE]
 refine⟨((e2 _ _).trans hE).trans hE2,?_⟩
 congr 1
 split<;>split<;>(try split)<;>(try split)<;>omega
end Go.Id

namespace Go.Id
open Go
end Go.Id
