/-
  Contracts: the reference's long integers: products, quotients, divisors. Contracts: the program's long integers: sums, differences, products, quotients, divisors.
-/
import Derived.Test.YtnanhedgenokpaaGreatTemperDetailedAt
import Derived.Test.YtnanhedgenokpaaGreatTemperDetailedAw
import Derived.Test.YtnanhedgenokpaaGreatTemperDetailedAv
import Derived.Test.YtnanhedgenokpaaGreatTemperDetailedAz
set_option linter.unusedVariables false
set_option linter.unusedSimpArgs false
set_option linter.defProp false
set_option linter.deprecated false
namespace Go.Id
open Go
open Go.Proofs.Tryz (prog)
open Nat renaming reduceAdd→zA,reduceEqDiff→zE,reduceLeDiff→zL
set_option maxHeartbeats 16000000
theorem pow_one_lt (b k:Nat) (hb:1<b) (hk:k≠0):1<b ^ k:=Nat.one_lt_pow hk hb
theorem pow_base (a b k:Nat) (h:a≤b):a ^ k≤b ^ k:=Nat.pow_le_pow_left h k
theorem pow_conv (b c k m n:Nat) (h:b=c ^ m) (h2:n=m*k):b ^ k=c ^ n:=by rw[h,h2,Nat.pow_mul]
theorem pow_lt2 (b k n:Nat) (hb:1<b) (h:k<n):b ^ k<b ^ n:=Nat.pow_lt_pow_right hb h
theorem small1:Small 1:=.mk (pow_one_lt 4294967296 1000000 (by decide) (by decide))
theorem small_nat {n:Nat} (h:Small n):SmallI (n:Int):=(Int.natAbs_natCast n).symm▸h
@[irreducible] def Half (x:Nat):Prop:=x<4294967296 ^ 500000
abbrev HalfI (z:Int):Prop:=Half z.natAbs
theorem Half.lt {x:Nat} (h:Half x):x<4294967296 ^ 500000:=by unfold Half at h;exact h
theorem Half.mk {x:Nat} (h:x<4294967296 ^ 500000):Half x:=by unfold Half;exact h
theorem Half.small {x:Nat} (h:Half x):Small x:=by
 have:=h.lt
 refine .mk ?_
 exact Nat.lt_of_lt_of_le this (pow_up 4294967296 (by decide) 500000 1000000 (by decide))
theorem sign_mul (x y:Int):(if (decide (x<0) != decide (y<0))=true then -((x.natAbs*y.natAbs:Nat):Int) else ((x.natAbs*y.natAbs:Nat):Int))=x*y:=by
 have e1:((x.natAbs*y.natAbs:Nat):Int)=(x.natAbs:Int)*(y.natAbs:Int):=by simp
 rw[e1]
 rcases Int.lt_or_le x 0 with hx|hx<;>rcases Int.lt_or_le y 0 with hy|hy
 ·have a:(x.natAbs:Int) = -x:=by omega
  have b:(y.natAbs:Int) = -y:=by omega
  simp[hx,hy,a,b,Int.neg_mul_neg]
 ·have a:(x.natAbs:Int) = -x:=by omega
  have b:(y.natAbs:Int)=y:=by omega
  have c : ¬y<0:=by omega
  simp[hx,c,a,b,Int.neg_mul]
 ·have a:(x.natAbs:Int)=x:=by omega
  have b:(y.natAbs:Int) = -y:=by omega
  have c : ¬x<0:=by omega
  simp[hy,c,a,b,Int.mul_neg]
 ·have a:(x.natAbs:Int)=x:=by omega
  have b:(y.natAbs:Int)=y:=by omega
  have c : ¬x<0:=by omega
  have d : ¬y<0:=by omega
  simp[c,d,a,b]
theorem tk_two (a b:Value):List.take 2 [a,b] = [a,b]:=rfl
theorem bne_bool (a b:Bool):(!(a == b))=(a != b):=rfl
theorem parts_a {x y:Int} (hy:y≠0) (h : ¬(if decide (x<0)=true then -((x.natAbs % y.natAbs:Nat):Int) else ((x.natAbs % y.natAbs:Nat):Int))<0) :
  (if (decide (x<0) != decide (y<0))=true then -((x.natAbs / y.natAbs:Nat):Int) else ((x.natAbs / y.natAbs:Nat):Int))=x / y∧(if decide (x<0)=true then -((x.natAbs % y.natAbs:Nat):Int) else ((x.natAbs % y.natAbs:Nat):Int))=x % y:=by
 have hb:0<y.natAbs:=by omega
 have h1:=Nat.div_add_mod x.natAbs y.natAbs
 have h2:=Nat.mod_lt x.natAbs hb
 generalize x.natAbs / y.natAbs=q at *
 generalize x.natAbs % y.natAbs=r at *
 have h1':(y.natAbs:Int)*(q:Int)+(r:Int)=(x.natAbs:Int):=by rw[←h1];simp
 have key : ∀y':Int,0<y' → ∀q' r':Int,r'+y'*q'=x→0≤r'→r'<y'→x / y'=q'∧x % y'=r':=fun y' hy' q' r' a b c=>(Int.ediv_emod_unique hy').2 ⟨a,b,c⟩
 rcases Int.lt_or_le x 0 with hx|hx
 ·simp only[hx,decide_true,if_true] at h ⊢
  obtain rfl:r=0:=by omega
  rcases Int.lt_or_le y 0 with hy0|hy0
  ·have a:(x.natAbs:Int) = -x:=by omega
   have b:(y.natAbs:Int) = -y:=by omega
   rw[a,b] at h1'
   obtain⟨k1,k2⟩:=key (-y) (by omega) (-q) 0 (by rw[Int.mul_neg];omega) (by omega) (by omega)
   rw[Int.ediv_neg] at k1
   rw[Int.emod_neg] at k2
   simp only[hy0,decide_true,bne_self_eq_false,Bool.false_eq_true,if_false]
   exact⟨by omega,by omega⟩
  ·have a:(x.natAbs:Int) = -x:=by omega
   have b:(y.natAbs:Int)=y:=by omega
   rw[a,b] at h1'
   obtain⟨k1,k2⟩:=key y (by omega) (-q) 0 (by rw[Int.mul_neg];omega) (by omega) (by omega)
   have : ¬y<0:=by omega
   simp only[this,decide_false,bne_iff_ne,ne_eq,reduceCtorEq,not_false_eq_true,if_true]
   exact⟨by omega,by omega⟩
 ·have hx' : ¬x<0:=by omega
  simp only[hx',decide_false,Bool.false_eq_true,if_false] at h ⊢
  rcases Int.lt_or_le y 0 with hy0|hy0
  ·have a:(x.natAbs:Int)=x:=by omega
   have b:(y.natAbs:Int) = -y:=by omega
   rw[a,b] at h1'
   obtain⟨k1,k2⟩:=key (-y) (by omega) q r (by omega) (by omega) (by omega)
   rw[Int.ediv_neg] at k1
   rw[Int.emod_neg] at k2
   simp only[hy0,decide_true,bne_iff_ne,ne_eq,reduceCtorEq,not_false_eq_true,if_true]
   exact⟨by omega,by omega⟩
  ·have a:(x.natAbs:Int)=x:=by omega
   have b:(y.natAbs:Int)=y:=by omega
   rw[a,b] at h1'
   obtain⟨k1,k2⟩:=key y (by omega) q r (by omega) (by omega) (by omega)
   have : ¬y<0:=by omega
   simp only[this,decide_false,bne_self_eq_false,Bool.false_eq_true,if_false]
   exact⟨by omega,by omega⟩
theorem parts_b {x y:Int} (hy:y≠0) (h:(if decide (x<0)=true then -((x.natAbs % y.natAbs:Nat):Int) else ((x.natAbs % y.natAbs:Nat):Int))<0) :
  (if (decide (x<0) != decide (y<0))=true then -((x.natAbs / y.natAbs:Nat):Int) else ((x.natAbs / y.natAbs:Nat):Int))+(if y<0 then 1 else -1)=x / y∧(if decide (x<0)=true then -((x.natAbs % y.natAbs:Nat):Int) else ((x.natAbs % y.natAbs:Nat):Int))+(y.natAbs:Int)=x % y:=by
 have hb:0<y.natAbs:=by omega
 have h1:=Nat.div_add_mod x.natAbs y.natAbs
 have h2:=Nat.mod_lt x.natAbs hb
 generalize x.natAbs / y.natAbs=q at *
 generalize x.natAbs % y.natAbs=r at *
 have h1':(y.natAbs:Int)*(q:Int)+(r:Int)=(x.natAbs:Int):=by rw[←h1];simp
 have key : ∀y':Int,0<y' → ∀q' r':Int,r'+y'*q'=x→0≤r'→r'<y'→x / y'=q'∧x % y'=r':=fun y' hy' q' r' a b c=>(Int.ediv_emod_unique hy').2 ⟨a,b,c⟩
 have hx:x<0:=by
  apply Classical.byContradiction;intro hn
  simp only[hn,decide_false,Bool.false_eq_true,if_false] at h
  omega
 simp only[hx,decide_true,if_true] at h ⊢
 have a:(x.natAbs:Int) = -x:=by omega
 rcases Int.lt_or_le y 0 with hy0|hy0
 ·have b:(y.natAbs:Int) = -y:=by omega
  rw[a,b] at h1'
  obtain⟨k1,k2⟩:=key (-y) (by omega) (-(q+1)) (-y - r) (by rw[Int.mul_neg,Int.mul_add];omega) (by omega) (by omega)
  rw[Int.ediv_neg] at k1
  rw[Int.emod_neg] at k2
  simp only[hy0,decide_true,bne_self_eq_false,Bool.false_eq_true,if_false,if_true]
  exact⟨by omega,by omega⟩
 ·have b:(y.natAbs:Int)=y:=by omega
  rw[a,b] at h1'
  obtain⟨k1,k2⟩:=key y (by omega) (-(q+1)) (y - r) (by rw[Int.mul_neg,Int.mul_add];omega) (by omega) (by omega)
  have : ¬y<0:=by omega
  simp only[this,decide_false,bne_iff_ne,ne_eq,reduceCtorEq,not_false_eq_true,if_true,if_false]
  exact⟨by omega,by omega⟩
theorem divisor_ok {h:IH} {v w:Value} {x y:Int} (hv:LongIs h v x) (hw:LongIs h w y) (sx:SmallI x) (sy:SmallI y) :
  WV prog (.func (.func 154) #[] #[]) [v,w] h fun r h'=>Ext h h'∧LongIs h' r (Int.gcd x y):=by
 obtain⟨s,rfl,hS⟩:=hv
 obtain⟨t,rfl,hT⟩:=hw
 obtain⟨ds,hD,hN,hx⟩:=id hS
 obtain⟨es,hE,hM,hy⟩:=id hT
 refine enter (nt:=26) (rs:=[.cell 4 194]) Proofs.Tryz.func154 rfl rfl rfl (by simp) ?_
 simp -dsimp (disch:=try exact dx) only[wpS,zE,zA,zc194,fa194_1,ld25]
 have kk : ∀o1 o2 o3,Ext h (((h.new o1).new o2).new o3):=fun o1 o2 o3=>(((Ext.refl h).new _).new _).new _
 refine loop (fun m fr h1 => ∃(xv yv:Value) (a:Nat),Ext (((h.new (.cells [.bool (decide (x<0)),s] 0 none)).new (.cells [.bool (decide (y<0)),t] 0 none)).new (.cells [.bool false,.slice none 0 0] 0 none)) h1∧Dig h1 xv a∧Dig h1 yv m∧Small a∧Small m∧Nat.gcd a m=Int.gcd x y∧fget fr 4=some (ptr (2*(h.n+1+1)) 0)∧fget fr 5=some xv∧fget fr 6=some yv) y.natAbs
  ⟨s,t,x.natAbs,Ext.refl _,hS.keep (kk _ _ _).keep,hT.keep (kk _ _ _).keep,sx,sy,rfl,by simp,by simp,by simp⟩ ?_
 clear hS hT hD hN hx hE hM hy ds es
 rintro m fr h1 ⟨xv,yv,a,hE1,hA,hB,sa,sb,hgcd,f4,f5,f6⟩
 obtain⟨ds,hD,hN,hx⟩:=id hA
 obtain⟨es,hE,hM,hy⟩:=id hB
 have hz:=hM.nil_iff
 rw[hy] at hz
 have l1:ds.length≤1000000:=hN.small (by rw[hx];exact sa)
 have l2:es.length≤1000000:=hM.small (by rw[hy];exact sb)
 by_cases hm:m=0
 ·have hes:es = []:=hz.1 hm
  have len0:lenB prog h1 25 yv=some (.int .i64 ((0:Nat):Int)):=by have:=hE.1.len (P:=prog) sl25 h1;rw[hes] at this;exact this
  have hg:h1.ext.get (h.n+1+1)=some (.cells [.bool false,.slice none 0 0] 0 none):=by rw[hE1.get _ (by simp)];exact get_new_same _ _ rfl
  simp -dsimp (disch:=try exact dx) only[wpS,wpT,zE,zL,zA,bv194,pl194_1,st194,ld194,f4,f5,f6,len0,hD.1.cells,hD.1.cok,hg]
  refine⟨((kk _ _ _).trans hE1).put (by omega) _,xv,?_,?_⟩
  ·simp
  ·subst hm
   rw[Nat.gcd_zero_right] at hgcd
   rw[Int.natAbs_natCast,←hgcd]
   exact hA.keep ((Keep.refl _).put hg _)
 ·have hl:0<es.length:=by
   apply Nat.pos_of_ne_zero;intro h0
   exact hm (hz.2 (List.length_eq_zero_iff.1 h0))
  simp -dsimp (disch:=try exact dx) only[wpS,wpT,zE,f5,f6,hE.1.len sl25]
  refine call (parts_ok hD hE hN hM (by rw[hy];exact hm) l1 l2) ?_
  rintro _ h2 ⟨hE2,q,r,rfl,hq,hr⟩
  rw[hx,hy] at hr
  have hlt:=Nat.mod_lt a (Nat.pos_of_ne_zero hm)
  simp -dsimp (disch:=try exact dx) only[wpS,zE,f6]
  refine⟨a % m,hlt,yv,r,m,hE1.trans hE2,hB.keep hE2.keep,hr,sb,sb.le (Nat.le_of_lt hlt),?_,by simp[f4],by simp,by simp⟩
  rw[←hgcd,Nat.gcd_comm a m,Nat.gcd_rec m a,Nat.gcd_comm]
theorem sgn_abs (b:Bool) (n:Nat):(if b=true then -(n:Int) else (n:Int)).natAbs=n:=by cases b<;>simp
theorem lparts_ok {h:IH} {v w:Value} {x y:Int} (hv:LongIs h v x) (hw:LongIs h w y) (sx:SmallI x) (sy:SmallI y) (y0:y≠0) :
  WV prog (.func (.func 153) #[] #[]) [v,w] h fun r h'=>Ext h h' ∧ ∃q t,r=.tuple #[q,t]∧LongIs h' q (x / y)∧LongIs h' t (x % y):=by
 obtain⟨s,rfl,hS⟩:=hv
 obtain⟨t,rfl,hT⟩:=hw
 obtain⟨ds,hD,hN,hx⟩:=id hS
 obtain⟨es,hE,hM,hy⟩:=id hT
 have l1:ds.length≤1000000:=hN.small (by rw[hx];exact sx)
 have l2:es.length≤1000000:=hM.small (by rw[hy];exact sy)
 refine enter (nt:=46) (rs:=[.cell 4 194,.cell 5 194]) Proofs.Tryz.func153 rfl rfl rfl (by simp) ?_
 simp -dsimp (disch:=try exact dx) only[wpS,zE,zA,zc194,fa194_1,ld25]
 have kk : ∀o1 o2 o3 o4,Ext h ((((h.new o1).new o2).new o3).new o4):=fun o1 o2 o3 o4=>((((Ext.refl h).new _).new _).new _).new _
 refine call (parts_ok (hD.keep (kk _ _ _ _).keep) (hE.keep (kk _ _ _ _).keep) hN hM (by rw[hy];omega) l1 l2) ?_
 rintro _ h1 ⟨hE1,q,r,rfl,⟨qs,hq,hqn,hqv⟩,⟨rs,hr,hrn,hrv⟩⟩
 rw[hx,hy] at hqv hrv
 have n1:h.n+4≤h1.n:=hE1.n
 have g0:h1.ext.get h.n=some (.cells [.bool (decide (x<0)),s] 0 none):=by rw[hE1.get _ (by simp<;>omega)];simp (disch:=try exact dx) only[get_new_same,get_new_old]
 have g1:h1.ext.get (h.n+1)=some (.cells [.bool (decide (y<0)),t] 0 none):=by rw[hE1.get _ (by simp<;>omega)];simp (disch:=try exact dx) only[get_new_same,get_new_old]
 have g2:h1.ext.get (h.n+1+1)=some (.cells [.bool false,.slice none 0 0] 0 none):=by rw[hE1.get _ (by simp<;>omega)];simp (disch:=try exact dx) only[get_new_same,get_new_old]
 have g3:h1.ext.get (h.n+1+1+1)=some (.cells [.bool false,.slice none 0 0] 0 none):=by rw[hE1.get _ (by simp<;>omega)];simp (disch:=try exact dx) only[get_new_same]
 have x1:Ext h h1:=(kk _ _ _ _).trans hE1
 have eT1:=hE.keep x1.keep
 clear hE1 kk
 have r0:=row_kn g0
 have r1:=row_kn g1
 simp -dsimp (disch:=try exact dx) only[wpS,zE]
 refine drawn [(8,[6])] (by kernel_rfl) (by kernel_rfl) rfl ?_
 simp -dsimp (disch:=try exact dx) only[wpS,zE,fa194_0,ld4,bn4,r0,r1,bne_bool]
 refine call (made_ok hq _) ?_
 rintro q2 h2 ⟨hE2,hq2⟩
 have r02:h2.row (2*h.n)=some [.bool (decide (x<0)),s]:=by rw[hE2.row (.inr (by omega))];exact r0
 simp -dsimp (disch:=try exact dx) only[wpS,zE,fa194_0,ld4,r02]
 refine call (made_ok (hr.keep hE2.keep) _) ?_
 rintro t2 h3 ⟨hE3,ht2⟩
 rw[hqv] at hq2
 rw[hrv] at ht2
 have pa:=parts_a (x:=x) y0
 have pb:=parts_b (x:=x) y0
 have aQ:=sgn_abs (decide (x<0) != decide (y<0)) (x.natAbs / y.natAbs)
 have aR:=sgn_abs (decide (x<0)) (x.natAbs % y.natAbs)
 generalize (if (decide (x<0) != decide (y<0))=true then -((x.natAbs / y.natAbs:Nat):Int) else ((x.natAbs / y.natAbs:Nat):Int))=Q at *
 generalize (if decide (x<0)=true then -((x.natAbs % y.natAbs:Nat):Int) else ((x.natAbs % y.natAbs:Nat):Int))=R at *
 have sQ:SmallI Q:=Small.le sx (by rw[aQ];exact Nat.div_le_self _ _)
 have sR:SmallI R:=Small.le sy (by rw[aR];exact Nat.le_of_lt (Nat.mod_lt _ (by omega)))
 obtain⟨sq,n3,rfl,c3,o3,_,_⟩:=hq2.form
 obtain⟨st,n4,rfl,c4,o4,_,_⟩:=ht2.form
 have x3:Ext h h3:=(x1.trans hE2).trans hE3
 have n2:=hE2.n
 have n3':=hE3.n
 simp -dsimp (disch:=try exact dx) only[wpS,wpT,zE,zL,zA,zc194,st194,o3,o4]
 refine⟨wpSteady_one rfl rfl rfl rfl (steady_load (av:=ptr (2*h.n) 0) (v:=.bool (decide (x<0))) rfl ?_ ?_),?_⟩
 ·simp -dsimp (disch:=try exact dx) only[wpS,ld4,r02]
 ·simp -dsimp (disch:=try exact dx) only[wpS,ld4,r0]
 simp -dsimp (disch:=try exact dx) only[wpS,wpT,zE,zA,fa194_0,ld4]
 have e4:Ext h3 ((((h3.new (.cells [.bool false,.slice none 0 0] 0 none)).new (.cells [.bool false,.slice none 0 0] 0 none)).put h3.n (.cells [.bool (decide (Q<0)),sq] 0 none)).put (h3.n+1) (.cells [.bool (decide (R<0)),st] 0 none)):=((((Ext.refl h3).new _).new _).put (Nat.le_refl _) _).put (by omega) _
 have g8:((((h3.new (.cells [.bool false,.slice none 0 0] 0 none)).new (.cells [.bool false,.slice none 0 0] 0 none)).put h3.n (.cells [.bool (decide (Q<0)),sq] 0 none)).put (h3.n+1) (.cells [.bool (decide (R<0)),st] 0 none)).ext.get h3.n=some (.cells [.bool (decide (Q<0)),sq] 0 none):=by simp (disch:=try exact dx) only[get_put_same,get_put_old]
 have g9:((((h3.new (.cells [.bool false,.slice none 0 0] 0 none)).new (.cells [.bool false,.slice none 0 0] 0 none)).put h3.n (.cells [.bool (decide (Q<0)),sq] 0 none)).put (h3.n+1) (.cells [.bool (decide (R<0)),st] 0 none)).ext.get (h3.n+1)=some (.cells [.bool (decide (R<0)),st] 0 none):=by simp (disch:=try exact dx) only[get_put_same]
 have n5:((((h3.new (.cells [.bool false,.slice none 0 0] 0 none)).new (.cells [.bool false,.slice none 0 0] 0 none)).put h3.n (.cells [.bool (decide (Q<0)),sq] 0 none)).put (h3.n+1) (.cells [.bool (decide (R<0)),st] 0 none)).n=h3.n+2:=rfl
 have hQ0:=hq2.keep (hE3.trans e4).keep
 have hR0:=ht2.keep e4.keep
 have x4:=x3.trans e4
 have x14:Ext h1 _:=(hE2.trans hE3).trans e4
 generalize ((((h3.new (.cells [.bool false,.slice none 0 0] 0 none)).new (.cells [.bool false,.slice none 0 0] 0 none)).put h3.n (.cells [.bool (decide (Q<0)),sq] 0 none)).put (h3.n+1) (.cells [.bool (decide (R<0)),st] 0 none))=h4 at *
 have r9:=row_kn g9
 refine bq_cut (fun fr2 h5 => ∃sq st,Ext h1 h5∧h3.n+2≤h5.n∧h5.ext.get h3.n=some (.cells [.bool (decide (x / y<0)),sq] 0 none)∧h5.ext.get (h3.n+1)=some (.cells [.bool (decide (x % y<0)),st] 0 none)∧LongIs h5 (.agg #[.bool (decide (x / y<0)),sq]) (x / y)∧LongIs h5 (.agg #[.bool (decide (x % y<0)),st]) (x % y) ∧
  fget fr2 4=some (ptr (2*(h.n+1+1)) 0)∧fget fr2 5=some (ptr (2*(h.n+1+1+1)) 0)∧fget fr2 8=some (ptr (2*h3.n) 0)∧fget fr2 9=some (ptr (2*(h3.n+1)) 0)) (fun hb=>?_) (fun hb=>?_) ?_
 ·have hb':R<0:=by simpa using hb
  obtain⟨b1,b2⟩:=pb hb'
  have g1':=(x14.get _ (by omega)).trans g1
  have r1':=row_kn g1'
  rw[decide_eq_true hb'] at hR0
  simp -dsimp (disch:=try exact dx) only[wpS,wpT,zE,zL,zA,fa194_1,ld25,ld194,bv194,pl194_1,r9,r1',List.drop_zero,tk_two,hE.1.cells]
  have hY:LongIs h4 (.agg #[.bool false,t]) (y.natAbs:Int):=⟨t,by simp,by rw[Int.natAbs_natCast];exact⟨es,eT1.keep x14.keep,hM,hy⟩⟩
  refine call (plus_ok hR0 hY sR (small_nat sy)) ?_
  rintro t5 h5 ⟨hE5,ht5⟩
  rw[b2] at ht5
  obtain⟨s5,_,rfl,c5,o5,_,_⟩:=ht5.form
  have g9':=(hE5.get _ (by omega)).trans g9
  have g8':=(hE5.get _ (by omega)).trans g8
  have g1'':=(hE5.get _ (by omega)).trans g1'
  have r1'':=row_kn g1''
  have r8':=row_kn g8'
  have n6:=hE5.n
  simp -dsimp (disch:=try exact dx) only[wpS,wpT,zE,zL,zA,fa194_0,ld4,st194,g9',o5,r1'']
  have kp5:=(Keep.refl h5).put g9' (.cells [.bool (decide (x % y<0)),s5] 0 none)
  refine bq_intro (fun hby=>?_) (fun hby=>?_)
  ·simp only[decide_eq_true_eq] at hby
   refine drawn [(0,[2])] (by kernel_rfl) (by kernel_rfl) rfl ?_
   simp -dsimp (disch:=try exact dx) only[wpS,wpT,zE,zL,zA,ld194,r8',List.drop_zero,tk_two]
   refine call (long1_ok 1 ⟨by omega,by omega⟩) ?_
   rintro o1 h6 ⟨hE6,ho1⟩
   simp -dsimp (disch:=try exact dx) only[wpS,zE]
   refine call (plus_ok (hQ0.keep ((hE5.keep.trans kp5).trans hE6.keep)) ho1 sQ (small_nat (small1))) ?_
   rintro q6 h7 ⟨hE7,hq6⟩
   rw[show Q+1=x / y by rw[←b1];simp only[hby,if_true]<;>omega] at hq6
   obtain⟨s6,_,rfl,c6,o6,_,_⟩:=hq6.form
   have g8a:=(hE6.get _ (by simp only[put_n];omega)).trans ((get_put_old h5 (.cells [.bool (decide (x % y<0)),s5] 0 none) (show h3.n≠h3.n+1 by omega)).trans g8')
   have g8b:=(hE7.get _ (by have:=hE6.n;simp only[put_n] at this;omega)).trans g8a
   have g9b:=(hE7.get (h3.n+1) (by have:=hE6.n;simp only[put_n] at this;omega)).trans ((hE6.get _ (by simp only[put_n];omega)).trans (get_put_same h5 (.cells [.bool (decide (x % y<0)),s5] 0 none) rfl))
   have r8a:=row_kn g8a
   simp -dsimp (disch:=try exact dx) only[wpS,wpT,zE,zL,zA,st194,g8b,o6]
   refine⟨wpSteady_one rfl rfl rfl rfl (steady_load (av:=ptr (2*h3.n) 0) (v:=.agg #[.bool (decide (Q<0)),sq]) rfl ?_ ?_),?_⟩
   ·simp -dsimp (disch:=try exact dx) only[wpS,wpT,zL,zA,ld194,r8',List.drop_zero,tk_two]
   ·simp -dsimp (disch:=try exact dx) only[wpS,wpT,zL,zA,ld194,r8a,List.drop_zero,tk_two]
   simp -dsimp (disch:=try exact dx) only[wpS,wpT,zA]
   have k7:=(Keep.refl h7).put g8b (.cells [.bool (decide (x / y<0)),s6] 0 none)
   have x7:Ext h1 (h5.put (h3.n+1) (.cells [.bool (decide (x % y<0)),s5] 0 none)):=(x14.trans hE5).put (by omega) _
   have n7:=hE6.n
   have n8:=hE7.n
   simp only[put_n] at n7
   refine⟨s6,s5,((x7.trans hE6).trans hE7).put (by omega) _,by simp only[put_n];omega,get_put_same _ _ rfl,by rw[get_put_old _ _ (by omega)];exact g9b,hq6.keep k7,ht5.keep ((kp5.trans (hE6.trans hE7).keep).trans k7),?_,?_,?_,?_⟩<;>simp
  ·simp only[decide_eq_false_iff_not] at hby
   refine drawn [(0,[2])] (by kernel_rfl) (by kernel_rfl) rfl ?_
   simp -dsimp (disch:=try exact dx) only[wpS,wpT,zE,zL,zA,ld194,r8',List.drop_zero,tk_two]
   refine call (long1_ok 1 ⟨by omega,by omega⟩) ?_
   rintro o1 h6 ⟨hE6,ho1⟩
   simp -dsimp (disch:=try exact dx) only[wpS,zE]
   refine call (minus_ok (hQ0.keep ((hE5.keep.trans kp5).trans hE6.keep)) ho1 sQ (small_nat (small1))) ?_
   rintro q6 h7 ⟨hE7,hq6⟩
   rw[show Q - 1=x / y by rw[←b1];simp only[hby,if_false]<;>omega] at hq6
   obtain⟨s6,_,rfl,c6,o6,_,_⟩:=hq6.form
   have g8a:=(hE6.get _ (by simp only[put_n];omega)).trans ((get_put_old h5 (.cells [.bool (decide (x % y<0)),s5] 0 none) (show h3.n≠h3.n+1 by omega)).trans g8')
   have g8b:=(hE7.get _ (by have:=hE6.n;simp only[put_n] at this;omega)).trans g8a
   have g9b:=(hE7.get (h3.n+1) (by have:=hE6.n;simp only[put_n] at this;omega)).trans ((hE6.get _ (by simp only[put_n];omega)).trans (get_put_same h5 (.cells [.bool (decide (x % y<0)),s5] 0 none) rfl))
   have r8a:=row_kn g8a
   simp -dsimp (disch:=try exact dx) only[wpS,wpT,zE,zL,zA,st194,g8b,o6]
   refine⟨wpSteady_one rfl rfl rfl rfl (steady_load (av:=ptr (2*h3.n) 0) (v:=.agg #[.bool (decide (Q<0)),sq]) rfl ?_ ?_),?_⟩
   ·simp -dsimp (disch:=try exact dx) only[wpS,wpT,zL,zA,ld194,r8',List.drop_zero,tk_two]
   ·simp -dsimp (disch:=try exact dx) only[wpS,wpT,zL,zA,ld194,r8a,List.drop_zero,tk_two]
   simp -dsimp (disch:=try exact dx) only[wpS,wpT,zA]
   have k7:=(Keep.refl h7).put g8b (.cells [.bool (decide (x / y<0)),s6] 0 none)
   have x7:Ext h1 (h5.put (h3.n+1) (.cells [.bool (decide (x % y<0)),s5] 0 none)):=(x14.trans hE5).put (by omega) _
   have n7:=hE6.n
   have n8:=hE7.n
   simp only[put_n] at n7
   refine⟨s6,s5,((x7.trans hE6).trans hE7).put (by omega) _,by simp only[put_n];omega,get_put_same _ _ rfl,by rw[get_put_old _ _ (by omega)];exact g9b,hq6.keep k7,ht5.keep ((kp5.trans (hE6.trans hE7).keep).trans k7),?_,?_,?_,?_⟩<;>simp
 ·have hb' : ¬R<0:=by simpa using hb
  obtain⟨b1,b2⟩:=pa hb'
  simp -dsimp (disch:=try exact dx) only[wpS,wpT]
  subst b1;subst b2
  exact⟨sq,st,x14,by omega,g8,g9,hQ0,hR0,by simp,by simp,by simp,by simp⟩
 rintro fr2 h5 ⟨sq,st,x5,n6,k8,k9,hQ,hR,f4,f5,f8,f9⟩
 have k2:=(x5.get _ (by omega)).trans g2
 have k3:=(x5.get _ (by omega)).trans g3
 have q8:=row_kn k8
 have q9:=row_kn k9
 obtain⟨s8,n8,e8,c8,o8,_,_⟩:=hQ.form
 obtain⟨s9,n9,e9,c9,o9,_,_⟩:=hR.form
 cases e8
 cases e9
 rw[d_seq]
 refine drawn [(1,[3])] (by kernel_rfl) (by kernel_rfl) rfl ?_
 simp -dsimp (disch:=try exact dx) only[wpS,wpT,zE,zL,zA,st194,ld194,f4,f5,f8,f9,q8,q9,k2,k3,o8,o9,List.drop_zero,tk_two]
 have k5:=(Keep.refl h5).put k2 (.cells [.bool (decide (x / y<0)),sq] 0 none)
 have k3':(h5.put (h.n+1+1) (.cells [.bool (decide (x / y<0)),sq] 0 none)).ext.get (h.n+1+1+1)=some (.cells [.bool false,.slice none 0 0] 0 none):=by rw[get_put_old _ _ (by omega)];exact k3
 have k6:=k5.put k3' (.cells [.bool (decide (x % y<0)),st] 0 none)
 refine⟨wpSteady_one rfl rfl rfl rfl (steady_load (av:=ptr (2*(h3.n+1)) 0) (v:=.agg #[.bool (decide (x % y<0)),st]) ?_ ?_ ?_),?_⟩
 ·simp -dsimp (disch:=try exact dx) only[wpS,zE,f9]
 ·simp -dsimp (disch:=try exact dx) only[wpS,wpT,zL,zA,ld194,q9,List.drop_zero,tk_two]
 ·simp -dsimp (disch:=try exact dx) only[wpS,wpT,zL,zA,ld194,q9,List.drop_zero,tk_two]
 simp -dsimp (disch:=try exact dx) only[wpS,wpT,zE,zL,zA,ld194,f4,f5,List.drop_zero,tk_two]
 exact⟨((x1.trans x5).put (by omega) _).put (by omega) _,_,_,rfl,hQ.keep k6,hR.keep k6⟩
end Go.Id

namespace Go.Id
open Go
open Go.Proofs.Tryz (prog)
open Nat renaming reduceAdd→zA,reduceEqDiff→zE,reduceLeDiff→zL
set_option maxHeartbeats 16000000
theorem small64' {ds:List Nat} (n:B.Norm ds) (h:Small (B.valD ds)):ds.length≤1000000:=by
 refine n.lenlt (Nat.lt_of_lt_of_le h.lt ?_)
 exact pow_base 4294967296 18446744073709551616 1000000 (by decide)
theorem half64' {ds:List Nat} (n:B.Norm ds) (h:Half (B.valD ds)):ds.length≤500000:=by
 refine n.lenlt (Nat.lt_of_lt_of_le h.lt ?_)
 exact pow_base 4294967296 18446744073709551616 500000 (by decide)
abbrev ZL:List Value:=[.bool false,.slice none 0 0]
theorem pturned_ok {h:IH} {v:Value} {z:Int} (hv:PLong h v z):WV prog (.func (.func 187) #[] #[]) [v] h fun r h'=>Ext h h'∧PLong h' r (-z):=by
 obtain⟨s,rfl,ds,hD,hN,hx⟩:=hv
 refine enter (nt:=9) (rs:=[.cell 2 137]) Proofs.Tryz.func187 rfl rfl rfl (by simp) ?_
 simp -dsimp (disch:=try exact dx) only[wpS,zE,zc137,fa137_0,ld4,fa137_1,ld135]
 refine call (trimmed_ok (hD.keep (((Keep.refl h).new _).new _)) _) ?_
 rintro r h1 ⟨hE,h2⟩
 have hz:(if (!decide (z<0))=true then -(B.valD ds:Int) else B.valD ds) = -z:=by
  by_cases h0:z<0<;>simp[h0]<;>omega
 rw[hz] at h2
 obtain⟨s1,n1,rfl,c1,o1,_,_⟩:=h2.form
 have n1:=(hE).n;try simp only[new_n] at n1
 have hg:h1.ext.get (h.n+1)=some (.cells ZL 0 none):=by rw[hE.get _ (by simp)];simp (disch:=try exact dx) only[get_new_same]
 simp -dsimp (disch:=try exact dx) only[wpS,wpT,zE,zL,zA,st137,ld137,hg,o1]
 exact⟨((((Ext.refl h).new _).new _).trans hE).put (by omega) _,h2.keep ((Keep.refl _).put hg _)⟩
theorem pplus_ok {h:IH} {v w:Value} {x y:Int} (hv:PLong h v x) (hw:PLong h w y) (sx:SmallI x) (sy:SmallI y) :
  WV prog (.func (.func 217) #[] #[]) [v,w] h fun r h'=>Ext h h'∧PLong h' r (x+y):=by
 obtain⟨s,rfl,a,ha,na,hx⟩:=hv
 obtain⟨t,rfl,b,hb,nb,hy⟩:=hw
 have la:a.length≤1000000:=small64' na (by rw[hx];exact sx)
 have lb:b.length≤1000000:=small64' nb (by rw[hy];exact sy)
 refine enter (nt:=34) (rs:=[.cell 4 137]) Proofs.Tryz.func217 rfl rfl rfl (by simp) ?_
 simp -dsimp (disch:=try exact dx) only[wpS,zE,zA,zc137,fa137_0,ld4,be4]
 have ee : ∀o1 o2 o3,Ext h (((h.new o1).new o2).new o3):=fun o1 o2 o3=>(((Ext.refl h).new _).new _).new _
 refine bq_intro (fun hc=>?_) (fun hc=>?_)
 ·have hc:(x<0↔y<0):=by simpa using hc
  simp -dsimp (disch:=try exact dx) only[wpS]
  refine drawn [(1,[7])] (by kernel_rfl) (by kernel_rfl) rfl ?_
  simp -dsimp (disch:=try exact dx) only[wpS,zE,fa137_0,ld4,fa137_1,ld135]
  refine call (added_ok (ha.keep (ee _ _ _).keep) (hb.keep (ee _ _ _).keep) (by omega) (by omega)) ?_
  rintro r h1 ⟨hE,os,hD,hval⟩
  simp -dsimp (disch:=try exact dx) only[wpS,zE]
  refine call (trimmed_ok hD _) ?_
  rintro r2 h2 ⟨hE2,hr⟩
  have hz:(if decide (x<0)=true then -(B.valD os:Int) else B.valD os)=x+y:=by
   by_cases h0:x<0<;>simp[h0]<;>omega
  rw[hz] at hr
  obtain⟨s1,n1,rfl,c1,o1,_,_⟩:=hr.form
  have m1:=(hE).n;try simp only[new_n] at m1
  have m2:=(hE2).n;try simp only[new_n,put_n] at m2
  have hg:h2.ext.get (h.n+1+1)=some (.cells ZL 0 none):=by rw[hE2.get _ (by omega),hE.get _ (by simp)];simp (disch:=try exact dx) only[get_new_same]
  have hr0:h1.row (2*h.n)=some [.bool (decide (x<0)),s]:=by
   rw[hE.row (by simp<;>omega)];simp -dsimp (disch:=try exact dx) only[wpS]
  simp -dsimp (disch:=try exact dx) only[wpS,wpT,zE,zL,zA,st137,hg,o1]
  refine⟨wpSteady_one rfl rfl rfl rfl (steady_load (av:=ptr (2*h.n) 0) (v:=.bool (decide (x<0))) rfl ?_ ?_),?_⟩
  ·simp -dsimp (disch:=try exact dx) only[wpS,ld4]
  ·simp -dsimp (disch:=try exact dx) only[wpS,ld4,hr0]
  ·simp -dsimp (disch:=try exact dx) only[wpS,wpT,zE,zL,zA,ld137]
   exact⟨(((ee _ _ _).trans hE).trans hE2).put (by omega) _,hr.keep ((Keep.refl _).put hg _)⟩
 ·have hc : ¬(x<0↔y<0):=by simpa using hc
  simp -dsimp (disch:=try exact dx) only[wpS,zE,fa137_1,ld135]
  refine call (compared_ok (ha.keep (ee _ _ _).keep) (hb.keep (ee _ _ _).keep) na nb) ?_
  rintro r h1 ⟨rfl,c,rfl,hc1,hc2,hc3,hc4⟩
  simp -dsimp (disch:=try exact dx) only[wpS,zE]
  refine bq_cut (fun fr2 h4 => ∃(p q:Int) (sp sq:Value) (ps qs:List Nat),Ext h h4∧h.n+3≤h4.n∧h4.ext.get h.n=some (.cells [.bool (decide (p<0)),sp] 0 none)∧h4.ext.get (h.n+1)=some (.cells [.bool (decide (q<0)),sq] 0 none)∧h4.ext.get (h.n+1+1)=some (.cells ZL 0 none) ∧
   WrdU h4 sp ps∧WrdU h4 sq qs∧B.Norm ps∧B.Norm qs∧B.valD ps=p.natAbs∧B.valD qs=q.natAbs∧q.natAbs≤p.natAbs∧p+q=x+y ∧ ¬(p<0↔q<0)∧fget fr2 2=some (ptr (2*h.n) 0)∧fget fr2 3=some (ptr (2*(h.n+1)) 0)∧fget fr2 4=some (ptr (2*(h.n+1+1)) 0)) (fun hc5=>?_) (fun hc5=>?_) ?_
  ·simp only[decide_eq_true_eq] at hc5
   simp -dsimp (disch:=try exact dx) only[wpS,wpT,zE,zL,zA,st137,ld137,List.drop_zero,tk_two,ha.1.cok,hb.1.cok]
   have g0:(((h.new (.cells [.bool (decide (x<0)),s] 0 none)).new (.cells [.bool (decide (y<0)),t] 0 none)).new (.cells [.bool false,.slice none 0 0] 0 none)).ext.get h.n=some (.cells [.bool (decide (x<0)),s] 0 none):=by simp (disch:=try exact dx) only[get_new_same,get_new_old]
   have g1:((((h.new (.cells [.bool (decide (x<0)),s] 0 none)).new (.cells [.bool (decide (y<0)),t] 0 none)).new (.cells [.bool false,.slice none 0 0] 0 none)).put h.n (.cells [.bool (decide (y<0)),t] 0 none)).ext.get (h.n+1)=some (.cells [.bool (decide (y<0)),t] 0 none):=by simp (disch:=try exact dx) only[get_new_same,get_new_old,get_put_old]
   have kp:=((ee _ _ _).keep.put g0 (.cells [.bool (decide (y<0)),t] 0 none)).put g1 (.cells [.bool (decide (x<0)),s] 0 none)
   refine⟨y,x,t,s,b,a,((ee _ _ _).put (Nat.le_refl _) _).put (by omega) _,by simp<;>omega,by simp (disch:=try exact dx) only[get_put_same,get_put_old],by simp (disch:=try exact dx) only[get_put_same],by simp (disch:=try exact dx) only[get_new_same,get_put_old],hb.keep kp,ha.keep kp,nb,na,hy,hx,by omega,by omega,by omega,by simp,by simp,by simp⟩
  ·simp only[decide_eq_false_iff_not] at hc5
   simp -dsimp (disch:=try exact dx) only[wpS,wpT]
   exact⟨x,y,s,t,a,b,ee _ _ _,by simp<;>omega,by simp (disch:=try exact dx) only[get_new_same,get_new_old],by simp (disch:=try exact dx) only[get_new_same,get_new_old],by simp (disch:=try exact dx) only[get_new_same],ha.keep (ee _ _ _).keep,hb.keep (ee _ _ _).keep,na,nb,hx,hy,by omega,rfl,hc,by simp,by simp,by simp⟩
  rintro fr h4 ⟨p,q,sp,sq,ps,qs,hE4,hn4,g0,g1,g2,hp,hq,np,nq,vp,vq,hle,hsum,hsg,f2,f3,f4⟩
  have r0:=row_kn g0
  have r1:=row_kn g1
  rw[d_seq]
  refine drawn [(1,[7])] (by kernel_rfl) (by kernel_rfl) rfl ?_
  simp -dsimp (disch:=try exact dx) only[wpS,zE,fa137_0,ld4,fa137_1,ld135,f2,f3,r0,r1]
  refine call (taken_ok hp hq nq (by omega)) ?_
  rintro r h5 ⟨hE5,os,rfl,hD,hval⟩
  simp -dsimp (disch:=try exact dx) only[wpS,zE]
  refine call (trimmed_ok hD _) ?_
  rintro r2 h6 ⟨hE6,hr⟩
  have hz:(if decide (p<0)=true then -(B.valD os:Int) else B.valD os)=x+y:=by
   by_cases h0:p<0<;>simp[h0]<;>omega
  rw[hz] at hr
  obtain⟨s1,n1,rfl,c1,o1,_,_⟩:=hr.form
  have m1:=(hE5).n;try simp only[new_n,put_n] at m1
  have m2:=(hE6).n;try simp only[new_n,put_n] at m2
  have hg:h6.ext.get (h.n+1+1)=some (.cells ZL 0 none):=by rw[hE6.get _ (by omega),hE5.get _ (by omega)];exact g2
  have hr0:h5.row (2*h.n)=some [.bool (decide (p<0)),sp]:=row_kn ((hE5.get _ (by omega)).trans g0)
  simp -dsimp (disch:=try exact dx) only[wpS,wpT,zE,zL,zA,st137,f4,hg,o1]
  refine⟨wpSteady_one rfl rfl rfl rfl (steady_load (av:=ptr (2*h.n) 0) (v:=.bool (decide (p<0))) ?_ ?_ ?_),?_⟩
  ·simp -dsimp (disch:=try exact dx) only[wpS]
  ·simp -dsimp (disch:=try exact dx) only[wpS,ld4,r0]
  ·simp -dsimp (disch:=try exact dx) only[wpS,ld4,hr0]
  ·simp -dsimp (disch:=try exact dx) only[wpS,wpT,zE,zL,zA,ld137,f4]
   exact⟨((hE4.trans hE5).trans hE6).put (by omega) _,hr.keep ((Keep.refl _).put hg _)⟩
theorem pminus_ok {h:IH} {v w:Value} {x y:Int} (hv:PLong h v x) (hw:PLong h w y) (sx:SmallI x) (sy:SmallI y) :
  WV prog (.func (.func 243) #[] #[]) [v,w] h fun r h'=>Ext h h'∧PLong h' r (x - y):=by
 obtain⟨s,n1,rfl,c1,o1,l1,z1⟩:=hv.form
 obtain⟨t,n2,rfl,c2,o2,l2,z2⟩:=hw.form
 refine enter (nt:=9) (rs:=[.cell 4 137]) Proofs.Tryz.func243 rfl rfl rfl (by simp) ?_
 simp -dsimp (disch:=try exact dx) only[wpS,zE,zA,zc137]
 have ee : ∀o1 o2 o3,Ext h (((h.new o1).new o2).new o3):=fun o1 o2 o3=>(((Ext.refl h).new _).new _).new _
 refine drawn [(0,[3])] (by kernel_rfl) (by kernel_rfl) rfl ?_
 simp -dsimp (disch:=try exact dx) only[wpS,wpT,zE,zL,zA,ld137]
 refine call (pturned_ok (hw.keep (ee _ _ _).keep)) ?_
 rintro r h1 ⟨hE,hT⟩
 simp -dsimp (disch:=try exact dx) only[wpS,zE]
 refine call (pplus_ok (hv.keep ((ee _ _ _).trans hE).keep) hT sx (by rw[SmallI,Int.natAbs_neg];exact sy)) ?_
 rintro r2 h2 ⟨hE2,hr⟩
 obtain⟨s1,n3,rfl,c3,o3,l3,z3⟩:=hr.form
 have m1:=(hE).n;try simp only[new_n] at m1
 have m2:=(hE2).n;try simp only[new_n,put_n] at m2
 have hg:h2.ext.get (h.n+1+1)=some (.cells ZL 0 none):=by rw[hE2.get _ (by omega),hE.get _ (by simp)];simp (disch:=try exact dx) only[get_new_same]
 have hr0:h1.row (2*h.n)=some [.bool (decide (x<0)),s]:=by
  rw[hE.row (by simp<;>omega)];simp -dsimp (disch:=try exact dx) only[wpS]
 simp -dsimp (disch:=try exact dx) only[wpS,wpT,zE,zL,zA,st137,hg,o3]
 refine⟨wpSteady_one rfl rfl rfl rfl (steady_load (av:=ptr (2*h.n) 0) (v:=.agg #[.bool (decide (x<0)),s]) rfl ?_ ?_),?_⟩
 ·simp -dsimp (disch:=try exact dx) only[wpS,wpT,zL,zA,ld137]
  rfl
 ·simp -dsimp (disch:=try exact dx) only[wpS,wpT,zL,zA,ld137,hr0]
  rfl
 ·simp -dsimp (disch:=try exact dx) only[wpS,wpT,zE,zL,zA,ld137]
  refine⟨(((ee _ _ _).trans hE).trans hE2).put (by omega) _,?_⟩
  have:x + -y=x - y:=by omega
  rw[this] at hr ⊢
  exact hr.keep ((Keep.refl _).put hg _)
theorem ptimes_ok {h:IH} {v w:Value} {x y:Int} (hv:PLong h v x) (hw:PLong h w y) (sx:HalfI x) (sy:HalfI y) :
  WV prog (.func (.func 87) #[] #[]) [v,w] h fun r h'=>Ext h h'∧PLong h' r (x*y):=by
 obtain⟨s,rfl,ds,hD,hN,hx⟩:=hv
 obtain⟨t,rfl,es,hE,hM,hy⟩:=hw
 have l1:ds.length≤500000:=half64' hN (by rw[hx];exact sx)
 have l2:es.length≤500000:=half64' hM (by rw[hy];exact sy)
 refine enter (nt:=16) (rs:=[.cell 4 137]) Proofs.Tryz.func87 rfl rfl rfl (by simp) ?_
 simp -dsimp (disch:=try exact dx) only[wpS,zE,zA,zc137]
 have kk : ∀o1 o2 o3,Ext h (((h.new o1).new o2).new o3):=fun o1 o2 o3=>(((Ext.refl h).new _).new _).new _
 refine drawn [(1,[10]),(3,[10])] (by kernel_rfl) (by kernel_rfl) rfl ?_
 simp -dsimp (disch:=try exact dx) only[wpS,zE,fa137_0,ld4,bn4,fa137_1,ld135,bne_bool]
 refine call (multiplied_ok (hD.keep (kk _ _ _).keep) (hE.keep (kk _ _ _).keep) (by omega)) ?_
 rintro r h1 ⟨hE1,os,hO,hOv⟩
 simp -dsimp (disch:=try exact dx) only[wpS,zE]
 refine call (trimmed_ok hO _) ?_
 rintro r2 h2 ⟨hE2,hr⟩
 rw[hOv,hx,hy,sign_mul] at hr
 obtain⟨s3,n3,rfl,c3,o3,_,_⟩:=hr.form
 have m1:=(hE1).n;try simp only[new_n] at m1
 have m2:=(hE2).n;try simp only[new_n,put_n] at m2
 have hg:h2.ext.get (h.n+1+1)=some (.cells ZL 0 none):=by
  rw[hE2.get _ (by omega),hE1.get _ (by simp)];exact get_new_same _ _ rfl
 have r0:h1.row (2*h.n)=some [.bool (decide (x<0)),s]:=by rw[hE1.row (by simp<;>omega)];simp -dsimp (disch:=try exact dx) only[wpS]
 have r1:h1.row (2*(h.n+1))=some [.bool (decide (y<0)),t]:=by rw[hE1.row (by simp<;>omega)];simp -dsimp (disch:=try exact dx) only[wpS]
 simp -dsimp (disch:=try exact dx) only[wpS,wpT,zE,zL,zA,st137,hg,o3]
 refine⟨wpSteady_cons (wpSteady_one rfl rfl rfl rfl (steady_load (av:=ptr (2*h.n) 0) (v:=.bool (decide (x<0))) rfl ?_ ?_)) (wpSteady_one rfl rfl rfl rfl (steady_load (av:=ptr (2*(h.n+1)) 0) (v:=.bool (decide (y<0))) rfl ?_ ?_)),?_⟩
 ·simp -dsimp (disch:=try exact dx) only[wpS,ld4]
 ·simp -dsimp (disch:=try exact dx) only[wpS,ld4,r0]
 ·simp -dsimp (disch:=try exact dx) only[wpS,ld4]
 ·simp -dsimp (disch:=try exact dx) only[wpS,ld4,r1]
 simp -dsimp (disch:=try exact dx) only[wpS,wpT,zE,zL,zA,ld137]
 exact⟨(((kk _ _ _).trans hE1).trans hE2).put (by omega) _,hr.keep ((Keep.refl _).put hg _)⟩
theorem pside_ok {h:IH} {v:Value} {z:Int} (hv:PLong h v z):WV prog (.func (.func 77) #[] #[]) [v] h fun r h'=>Ext h h'∧r=KI (if z<0 then -1 else if z=0 then 0 else 1):=by
 obtain⟨s,n1,rfl,c1,o1,l1,z1⟩:=hv.form
 refine enter (nt:=11) (rs:=[.tmp 2]) Proofs.Tryz.func77 rfl rfl rfl (by simp) ?_
 simp -dsimp (disch:=try exact dx) only[wpS,zE,fa137_0,ld4]
 refine bq_intro ?_ ?_<;>intro hc<;>simp only[decide_eq_true_eq,decide_eq_false_iff_not] at hc
 ·simp -dsimp (disch:=try exact dx) only[wpS,wpT,zE]
  refine⟨(Ext.refl h).new _,?_⟩
  rw[if_pos hc]
 ·simp -dsimp (disch:=try exact dx) only[wpS,wpT,zE,fa137_1,ld135,l1 sl135]
  refine bq_intro ?_ ?_<;>intro hc2<;>simp only[beq_iff_eq,beq_eq_false_iff_ne,ne_eq] at hc2
  ·simp -dsimp (disch:=try exact dx) only[wpS,wpT,zE]
   refine⟨(Ext.refl h).new _,?_⟩
   rw[if_neg (by omega),if_pos (by omega)]
  ·simp -dsimp (disch:=try exact dx) only[wpS,wpT]
   refine⟨(Ext.refl h).new _,?_⟩
   rw[if_neg (by omega),if_neg (by omega)]
theorem pcmp_ok {h:IH} {v w:Value} {x y:Int} (hv:PLong h v x) (hw:PLong h w y) (sx:SmallI x) (sy:SmallI y) :
  WV prog (.func (.func 177) #[] #[]) [v,w] h fun r h'=>Ext h h'∧r=KI (if x<y then -1 else if x=y then 0 else 1):=by
 obtain⟨s,n1,rfl,c1,o1,l1,z1⟩:=hv.form
 obtain⟨t,n2,rfl,c2,o2,l2,z2⟩:=hw.form
 refine enter (nt:=9) (rs:=[.tmp 4]) Proofs.Tryz.func177 rfl rfl rfl (by simp) ?_
 simp -dsimp (disch:=try exact dx) only[wpS,wpT,zE,zL,zA,ld137]
 have e2 : ∀o1 o2,Ext h ((h.new o1).new o2):=fun o1 o2=>((Ext.refl h).new _).new _
 refine call (pminus_ok (hv.keep (e2 _ _).keep) (hw.keep (e2 _ _).keep) sx sy) ?_
 rintro r h1 ⟨hE,hr⟩
 simp -dsimp (disch:=try exact dx) only[wpS,zE]
 refine call (pside_ok hr) ?_
 rintro _ h2 ⟨hE2,rfl⟩
 simp -dsimp (disch:=try exact dx) only[wpS,zE]
 refine⟨((e2 _ _).trans hE).trans hE2,?_⟩
 congr 1
 split<;>split<;>(try split)<;>(try split)<;>omega
end Go.Id

namespace Go.Id
open Go
end Go.Id
