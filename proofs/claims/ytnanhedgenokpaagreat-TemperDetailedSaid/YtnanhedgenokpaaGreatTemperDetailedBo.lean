/-
  The functions on fractions and integers of any length, by value: what is reckoned here is what they give. The functions on fractions and integers of any length give what is reckoned.
-/
import Derived.Test.YtnanhedgenokpaaGreatTemperDetailedBn
import Derived.Test.YtnanhedgenokpaaGreatTemperDetailedBj
import Derived.Test.YtnanhedgenokpaaGreatTemperDetailedBc
import Derived.Test.YtnanhedgenokpaaGreatTemperDetailedBb
import Derived.Test.YtnanhedgenokpaaGreatTemperDetailedBi
import Derived.Test.YtnanhedgenokpaaGreatTemperDetailedAq
import Derived.Test.YtnanhedgenokpaaGreatTemperDetailedAt
set_option linter.unusedVariables false
set_option linter.unusedSimpArgs false
set_option linter.defProp false
set_option linter.deprecated false
namespace Go.Id
open Go
noncomputable section
def iN {α:Type} (a:Int) (k:Bool→Nat→α):α:=Int.rec (motive:=fun _=>α) (fun n=>fN n (k false)) (fun n=>fN (Nat.succ n) (k true)) a
theorem iN_eq {α:Type} (a:Int) (k:Bool→Nat→α):iN a k=k (decide (a<0)) a.natAbs:=by
 cases a with
 | ofNat n =>
  show fN n (k false)=k (decide ((n:Int)<0)) n
  rw[fN_eq,decide_eq_false (by omega)]
 | negSucc n =>
  show fN (n+1) (k true)=k (decide (Int.negSucc n<0)) (n+1)
  rw[fN_eq,decide_eq_true (by omega)]
def sI (n:Bool) (x:Nat):Int:=iB n (Int.neg (Int.ofNat x)) (Int.ofNat x)
theorem sI_eq (n:Bool) (x:Nat):sI n x=sint n x:=by cases n<;>rfl
def longR (a:Int):NR:=iN a NR.long
def ratR (a:Int) (d:Nat):NR:=iN a fun s x=>fN (Nat.gcd x d) fun g=>fN (Nat.div x g) fun x=>fN (Nat.div d g) fun y=>.rat s x y
def twoR (a b:Int):NR:=iN a fun s x=>iN b fun k y=>.two s x k y
theorem sint_self (a:Int):sint (decide (a<0)) a.natAbs=a:=by
 unfold sint
 by_cases h:a<0
 ·rw[if_pos (decide_eq_true h)];omega
 ·rw[if_neg (by simpa using h)];omega
theorem sint_mul (s:Bool) (x g:Nat):sint s (x*g)=sint s x*g:=by
 unfold sint
 split
 ·rw[Int.natCast_mul,Int.neg_mul]
 ·rw[Int.natCast_mul]
theorem longR_eq (a:Int):longR a=.long (decide (a<0)) a.natAbs:=by unfold longR;rw[iN_eq]
theorem twoR_eq (a b:Int):twoR a b=.two (decide (a<0)) a.natAbs (decide (b<0)) b.natAbs:=by unfold twoR;rw[iN_eq,iN_eq]
theorem neg_abs {a:Int} (h:decide (a<0)=true):a.natAbs≠0:=by have:=of_decide_eq_true h;omega
theorem longR_good (a:Int):(longR a).good:=by rw[longR_eq];exact neg_abs
theorem longR_real {a:Int} {h:IH} {v:Value} (p:PLong h v a):(longR a).real h v:=by
 rw[longR_eq]
 show PLong h v (sint _ _)
 rw[sint_self];exact p
theorem twoR_good (a b:Int):(twoR a b).good:=by rw[twoR_eq];exact⟨neg_abs,neg_abs⟩
theorem twoR_real {a b:Int} {h:IH} {v:Value} (p : ∃q t,v=.tuple #[q,t]∧PLong h q a∧PLong h t b):(twoR a b).real h v:=by
 rw[twoR_eq]
 show ∃q t,v=.tuple #[q,t]∧PLong h q (sint _ _)∧PLong h t (sint _ _)
 rw[sint_self,sint_self];exact p
theorem ratR_eq (a:Int) {d:Nat} (hd:0<d) : ∃x y,ratR a d=.rat (decide (a<0)) x y∧sint (decide (a<0)) x=(Rat.divInt a d).num∧y=(Rat.divInt a d).den∧(a<0→x≠0):=by
 have g0:0<Nat.gcd a.natAbs d:=Nat.gcd_pos_of_pos_right _ hd
 have k1:a.natAbs / Nat.gcd a.natAbs d*Nat.gcd a.natAbs d=a.natAbs:=Nat.div_mul_cancel (Nat.gcd_dvd_left _ _)
 have k2:d / Nat.gcd a.natAbs d*Nat.gcd a.natAbs d=d:=Nat.div_mul_cancel (Nat.gcd_dvd_right _ _)
 obtain⟨l1,l2⟩:=low_pos (n:=a) (d:=d) (by omega)
 have eg:Int.gcd a d=Nat.gcd a.natAbs d:=by unfold Int.gcd;rw[Int.natAbs_natCast]
 rw[eg] at l1 l2
 refine⟨a.natAbs / Nat.gcd a.natAbs d,d / Nat.gcd a.natAbs d,?_,?_,?_,fun h e=>?_⟩
 ·unfold ratR
  rw[iN_eq,fN_eq,fN_eq,fN_eq];rfl
 ·rw[←l1]
  have:a=sint (decide (a<0)) (a.natAbs / Nat.gcd a.natAbs d)*(Nat.gcd a.natAbs d:Nat):=by rw[←sint_mul,k1,sint_self]
  exact(Int.ediv_eq_of_eq_mul_left (by omega) this).symm
 ·rw[←Int.natCast_ediv] at l2
  exact Int.ofNat.inj l2
 ·rw[e] at k1;omega
theorem ratR_good (a:Int) {d:Nat} (hd:0<d):(ratR a d).good:=by
 obtain⟨x,y,e,e1,e2,e3⟩:=ratR_eq a hd
 rw[e]
 refine⟨fun h=>e3 (of_decide_eq_true h),?_,?_⟩
 ·rw[e2];exact Rat.den_nz _
 ·have r:=(Rat.divInt a d).reduced
  rw[←e1,←e2,sint_abs] at r
  exact r
theorem ratR_real {a:Int} {d:Nat} (hd:0<d) {h:IH} {v:Value} (p:PRat h v (Rat.divInt a d)):(ratR a d).real h v:=by
 obtain⟨x,y,e,e1,e2,e3⟩:=ratR_eq a hd
 rw[e]
 show PRat h v (qrat _ _ _)
 unfold qrat
 rw[e1,e2,Rat.num_divInt_den];exact p
theorem qrat_one (n:Bool) (x:Nat):qrat n x 1=(sint n x:Rat):=Rat.num_divInt_den ((sint n x:Int):Rat)
theorem bits_lek {x k:Nat} (h:wlen x≤64) (hk:64*64≤k):x≤2 ^ k:=by
 have a:=wlen_lt x
 have p:(18446744073709551616:Nat) ^ wlen x=2 ^ (64*wlen x):=by rw[Nat.pow_mul]
 rw[p] at a
 exact Nat.le_trans (Nat.le_of_lt a) (Nat.pow_le_pow_right (by omega) (by omega))
theorem bits_le {x:Nat} (h:wlen x≤64):x≤2 ^ 4096:=bits_lek (k:=4096) h (Nat.le_refl _)
theorem rat_num {n:Bool} {b x c y:Nat} (g:(NV.rat n b x c y).good):(qrat n x y).num=sint n x∧(qrat n x y).den=y:=qrat_parts g.1.2.1 g.1.2.2
theorem rat_qb {n:Bool} {b x c y:Nat} (g:(NV.rat n b x c y).good):QB 4096 (qrat n x y):=by
 obtain⟨e1,e2⟩:=rat_num g
 exact⟨by rw[e1,sint_abs];exact bits_le g.2.1,by rw[e2];exact bits_le g.2.2⟩
theorem long_half {n:Bool} {b x:Nat} (g:(NV.long n b x).good):HalfI (sint n x):=half_bits (k:=4096) (by rw[sint_abs];exact bits_le g.2) (by omega)
theorem long_small {n:Bool} {b x:Nat} (g:(NV.long n b x).good):SmallI (sint n x):=(long_half g).small
theorem reals1 {h:IH} {a:NV} {us:List Value} (R:Reals h [a] us) : ∃v,us = [v]∧a.real h v:=by
 match us,R with
 | [],R=>exact R.elim
 | [v],R=>exact⟨v,rfl,R.1⟩
 | _ :: _ :: _,R=>exact R.2.elim
theorem reals2 {h:IH} {a b:NV} {us:List Value} (R:Reals h [a,b] us) : ∃v w,us = [v,w]∧a.real h v∧b.real h w:=by
 match us,R with
 | [],R=>exact R.elim
 | [_],R=>exact R.2.elim
 | [v,w],R=>exact⟨v,w,rfl,R.1,R.2.1⟩
 | _ :: _ :: _ :: _,R=>exact R.2.2.elim
def onV (k:Value→Option NR) (l:List NV):Option NR:=match l with
 | [.val v]=>k v
 | _=>none
def onL (k:Bool→Nat→Option NR) (l:List NV):Option NR:=match l with
 | [.long n _ x]=>k n x
 | _=>none
def onQ (k:Bool→Nat→Nat→Option NR) (l:List NV):Option NR:=match l with
 | [.rat n _ x _ y]=>k n x y
 | _=>none
def onLL (k:Bool→Nat→Bool→Nat→Option NR) (l:List NV):Option NR:=match l with
 | [.long n _ x,.long m _ y]=>k n x m y
 | _=>none
def onQQ (k:Bool→Nat→Nat→Bool→Nat→Nat→Option NR) (l:List NV):Option NR:=match l with
 | [.rat n _ x _ y,.rat m _ u _ w]=>k n x y m u w
 | _=>none
theorem num_v {P:Program} {f:FuncId} {k:Value→Option NR} (hb : ∃fn,P.funcs[f]?=some fn∧fn.body.isSome=true)
  (w : ∀v r,k v=some r→r.good ∧ ∀h,WV P (.func (.func f) #[] #[]) [v] h fun u h'=>r.real h' u):NumFn P f (onV k) where
 body:=hb
 right:=fun al r hg e=>by
  unfold onV at e
  split at e
  case h_2=>cases e
  obtain⟨h1,h2⟩:=w _ _ e
  refine⟨h1,fun h us R=>?_⟩
  obtain⟨v,rfl,rfl⟩:=reals1 R
  exact h2 h
theorem num_l {P:Program} {f:FuncId} {k:Bool→Nat→Option NR} (hb : ∃fn,P.funcs[f]?=some fn∧fn.body.isSome=true)
  (w : ∀n b x r,(NV.long n b x).good→k n x=some r→r.good ∧ ∀h v,PLong h v (sint n x)→WV P (.func (.func f) #[] #[]) [v] h fun u h'=>r.real h' u):NumFn P f (onL k) where
 body:=hb
 right:=fun al r hg e=>by
  unfold onL at e
  split at e
  case h_2=>cases e
  obtain⟨h1,h2⟩:=w _ _ _ _ (hg _ List.mem_cons_self) e
  refine⟨h1,fun h us R=>?_⟩
  obtain⟨v,rfl,p⟩:=reals1 R
  exact h2 h v p
theorem num_q {P:Program} {f:FuncId} {k:Bool→Nat→Nat→Option NR} (hb : ∃fn,P.funcs[f]?=some fn∧fn.body.isSome=true)
  (w : ∀n b x c y r,(NV.rat n b x c y).good→k n x y=some r→r.good ∧ ∀h v,PRat h v (qrat n x y)→WV P (.func (.func f) #[] #[]) [v] h fun u h'=>r.real h' u):NumFn P f (onQ k) where
 body:=hb
 right:=fun al r hg e=>by
  unfold onQ at e
  split at e
  case h_2=>cases e
  obtain⟨h1,h2⟩:=w _ _ _ _ _ _ (hg _ List.mem_cons_self) e
  refine⟨h1,fun h us R=>?_⟩
  obtain⟨v,rfl,p⟩:=reals1 R
  exact h2 h v p
theorem num_ll {P:Program} {f:FuncId} {k:Bool→Nat→Bool→Nat→Option NR} (hb : ∃fn,P.funcs[f]?=some fn∧fn.body.isSome=true)
  (w : ∀n b x m c y r,(NV.long n b x).good→(NV.long m c y).good→k n x m y=some r→r.good ∧ ∀h v v2,PLong h v (sint n x)→PLong h v2 (sint m y)→WV P (.func (.func f) #[] #[]) [v,v2] h fun u h'=>r.real h' u):NumFn P f (onLL k) where
 body:=hb
 right:=fun al r hg e=>by
  unfold onLL at e
  split at e
  case h_2=>cases e
  obtain⟨h1,h2⟩:=w _ _ _ _ _ _ _ (hg _ List.mem_cons_self) (hg _ (List.mem_cons_of_mem _ List.mem_cons_self)) e
  refine⟨h1,fun h us R=>?_⟩
  obtain⟨v,v2,rfl,p,q⟩:=reals2 R
  exact h2 h v v2 p q
theorem num_qq {P:Program} {f:FuncId} {k:Bool→Nat→Nat→Bool→Nat→Nat→Option NR} (hb : ∃fn,P.funcs[f]?=some fn∧fn.body.isSome=true)
  (w : ∀n b x c y m d u e z r,(NV.rat n b x c y).good→(NV.rat m d u e z).good→k n x y m u z=some r→r.good ∧ ∀h v v2,PRat h v (qrat n x y)→PRat h v2 (qrat m u z)→WV P (.func (.func f) #[] #[]) [v,v2] h fun u h'=>r.real h' u):NumFn P f (onQQ k) where
 body:=hb
 right:=fun al r hg e=>by
  unfold onQQ at e
  split at e
  case h_2=>cases e
  obtain⟨h1,h2⟩:=w _ _ _ _ _ _ _ _ _ _ _ (hg _ List.mem_cons_self) (hg _ (List.mem_cons_of_mem _ List.mem_cons_self)) e
  refine⟨h1,fun h us R=>?_⟩
  obtain⟨v,v2,rfl,p,q⟩:=reals2 R
  exact h2 h v v2 p q
def sgnV (z:Int):NR:=Int.rec (motive:=fun _=>NR) (fun n=>Nat.rec (motive:=fun _=>NR) (.val (.int .i64 (Int.ofNat 0))) (fun _ _=>.val (.int .i64 (Int.ofNat 1))) n) (fun _=>.val (.int .i64 (Int.negSucc 0))) z
theorem sgnV_eq (x y:Int):sgnV (Int.sub x y)=.val (KI (if x<y then -1 else if x=y then 0 else 1)):=by
 unfold sgnV
 have e:Int.sub x y=x - y:=rfl
 rw[e]
 cases h:x - y with
 | ofNat n =>
  have h:x - y=(n:Int):=h
  cases n with
  | zero=>rw[if_neg (by omega),if_pos (by omega)];rfl
  | succ m=>rw[if_neg (by omega),if_neg (by omega)];rfl
 | negSucc n=>rw[if_pos (by omega)];rfl
theorem sgnV_zero (x:Int):sgnV x=.val (KI (if x<0 then -1 else if x=0 then 0 else 1)):=by
 rw[←sgnV_eq x 0]
 congr 1
 exact(Int.sub_zero x).symm
def pairK (n d:Int):Option Value:=some (.tuple #[.int .i64 n,.int .i64 d])
def onPair (k:Int→Int→Option NR) (v:Value):Option NR:=match v with
 | .tuple cs=>match cs.toList with
  | [.int _ n,.int _ d]=>k n d
  | _=>none
 | _=>none
def onInt (k:Int→Option NR) (v:Value):Option NR:=match v with
 | .int .i64 n=>k n
 | _=>none
def readS:List NV→Option NR:=onV fun v=>bO (shareF v pairK) (onPair fun n d=>iB (okF n d) (iN d fun _ y=>some (ratR n y)) none)
def rfromS:List NV→Option NR:=onV (onInt fun n=>iB (in64F n) (some (ratR n 1)) none)
def wholeS:List NV→Option NR:=onL fun n x=>some (.rat n x 1)
def rtoldS:List NV→Option NR:=onQ fun n x y=>some (.val (toldF (sI n x) (Int.ofNat y)))
def rturnS:List NV→Option NR:=onQ fun n x y=>some (.rat (iB n false (Nat.ble 1 x)) x y)
def rplusS:List NV→Option NR:=onQQ fun n x y m u z=>some (ratR (Int.add (Int.mul (sI n x) (Int.ofNat z)) (Int.mul (sI m u) (Int.ofNat y))) (Nat.mul y z))
def rminusS:List NV→Option NR:=onQQ fun n x y m u z=>some (ratR (Int.sub (Int.mul (sI n x) (Int.ofNat z)) (Int.mul (sI m u) (Int.ofNat y))) (Nat.mul y z))
def rtimesS:List NV→Option NR:=onQQ fun n x y m u z=>some (ratR (Int.mul (sI n x) (sI m u)) (Nat.mul y z))
def roverS:List NV→Option NR:=onQQ fun n x y m u z=>iB (Nat.beq u 0) none (some (ratR (Int.mul (sI n x) (sI m z)) (Nat.mul y u)))
def rcmpS:List NV→Option NR:=onQQ fun n x y m u z=>some (sgnV (Int.sub (Int.mul (sI n x) (Int.ofNat z)) (Int.mul (sI m u) (Int.ofNat y))))
def wlongerS:List NV→Option NR:=onV fun v=>bO (wideF v fun n=>some (.int .i64 n)) (onInt fun n=>some (longR n))
def wfromS:List NV→Option NR:=onV (onInt fun n=>iB (in64F n) (some (longR n)) none)
def wtoldS:List NV→Option NR:=onL fun n x=>iB (inF (sI n x)) (some (.val (.tuple #[.agg ⟨wordsL 8 (wordF (sI n x)) []⟩,.int .i64 0]))) (some (.val (.tuple #[.agg ⟨wordsL 8 0 []⟩,.int .i64 6])))
def wturnS:List NV→Option NR:=onL fun n x=>some (.long (iB n false (Nat.ble 1 x)) x)
def wsideS:List NV→Option NR:=onL fun n x=>some (sgnV (sI n x))
def wplusS:List NV→Option NR:=onLL fun n x m y=>some (longR (Int.add (sI n x) (sI m y)))
def wminusS:List NV→Option NR:=onLL fun n x m y=>some (longR (Int.sub (sI n x) (sI m y)))
def wtimesS:List NV→Option NR:=onLL fun n x m y=>some (longR (Int.mul (sI n x) (sI m y)))
def wcmpS:List NV→Option NR:=onLL fun n x m y=>some (sgnV (Int.sub (sI n x) (sI m y)))
def wcommonS:List NV→Option NR:=onLL fun _ x _ y=>some (.long false (Nat.gcd x y))
def wpartsS:List NV→Option NR:=onLL fun n x m y=>iB (Nat.beq y 0) none (some (twoR (Int.ediv (sI n x) (sI m y)) (Int.emod (sI n x) (sI m y))))
end
end Go.Id

namespace Go.Id
open Go
abbrev Num (f:FuncId) (sem:List NV→Option NR):Prop:=NumFn Proofs.Tryz.prog f sem
theorem divInt_num {n m:Bool} {b x c y d u e z:Nat} (g:(NV.rat n b x c y).good) (k:(NV.rat m d u e z).good) :
  (qrat n x y).num=sI n x∧((qrat n x y).den:Int)=y∧(qrat m u z).num=sI m u∧((qrat m u z).den:Int)=z∧0<y*z:=by
 rw[(rat_num g).1,(rat_num g).2,(rat_num k).1,(rat_num k).2,sI_eq,sI_eq]
 exact⟨rfl,rfl,rfl,rfl,Nat.mul_pos (Nat.pos_of_ne_zero g.1.2.1) (Nat.pos_of_ne_zero k.1.2.1)⟩
theorem num_rplus:Num 130 rplusS:=num_qq ⟨_,Proofs.Tryz.func130,rfl⟩ fun n b x c y m d u e z r g k h0=>by
 cases h0
 obtain⟨e1,e2,e3,e4,p⟩:=divInt_num g k
 refine⟨ratR_good _ p,fun h v v2 hv hw=>(rplus_ok hv hw (rat_qb g) (rat_qb k) (by omega)).mono fun r h' q=>ratR_real p ?_⟩
 have:=q.2
 rw[rat_add,e1,e2,e3,e4] at this
 rw[Int.natCast_mul];exact this
theorem num_rminus:Num 96 rminusS:=num_qq ⟨_,Proofs.Tryz.func96,rfl⟩ fun n b x c y m d u e z r g k h0=>by
 cases h0
 obtain⟨e1,e2,e3,e4,p⟩:=divInt_num g k
 refine⟨ratR_good _ p,fun h v v2 hv hw=>(rminus_ok hv hw (rat_qb g) (rat_qb k) (by omega)).mono fun r h' q=>ratR_real p ?_⟩
 have:=q.2
 rw[rat_sub',e1,e2,e3,e4] at this
 rw[Int.natCast_mul];exact this
theorem num_rtimes:Num 93 rtimesS:=num_qq ⟨_,Proofs.Tryz.func93,rfl⟩ fun n b x c y m d u e z r g k h0=>by
 cases h0
 obtain⟨e1,e2,e3,e4,p⟩:=divInt_num g k
 refine⟨ratR_good _ p,fun h v v2 hv hw=>(rtimes_ok hv hw (rat_qb g) (rat_qb k) (by omega)).mono fun r h' q=>ratR_real p ?_⟩
 have:=q.2
 rw[rat_mul,e1,e2,e3,e4] at this
 rw[Int.natCast_mul];exact this
theorem sint_swap (n m:Bool) (x y z u:Nat):Rat.divInt (sint n x*z) ((y:Int)*sint m u)=Rat.divInt (sint n x*sint m z) ((y:Int)*u):=by
 cases m
 ·rfl
 ·show Rat.divInt (sint n x*z) ((y:Int) * -(u:Int))=Rat.divInt (sint n x * -(z:Int)) _
  rw[Int.mul_neg,Rat.divInt_neg',Int.mul_neg]
theorem num_rover:Num 94 roverS:=num_qq ⟨_,Proofs.Tryz.func94,rfl⟩ fun n b x c y m d u e z r g k h0=>by
 obtain⟨h1,h0⟩:=iB_some' h0
 cases h0
 obtain⟨e1,e2,e3,e4,_⟩:=divInt_num g k
 have u0:u≠0:=fun h=>by rw[h] at h1;cases h1
 have p:0<y*u:=Nat.mul_pos (Nat.pos_of_ne_zero g.1.2.1) (Nat.pos_of_ne_zero u0)
 have q0:qrat m u z≠0:=fun h=>by
  rw[h,sI_eq] at e3
  have:(sint m u).natAbs=0:=by rw[←e3];rfl
  rw[sint_abs] at this
  exact u0 this
 refine⟨ratR_good _ p,fun h v v2 hv hw=>(rover_ok hv hw (rat_qb g) (rat_qb k) (by omega) q0).mono fun r h' q=>ratR_real p ?_⟩
 have:=q.2
 rw[rat_div,e1,e2,e3,e4,sI_eq,sI_eq,sint_swap,←sI_eq,←sI_eq] at this
 rw[Int.natCast_mul];exact this
theorem num_rcmp:Num 95 rcmpS:=num_qq ⟨_,Proofs.Tryz.func95,rfl⟩ fun n b x c y m d u e z r g k h0=>by
 cases h0
 obtain⟨e1,e2,e3,e4,p⟩:=divInt_num g k
 rw[sgnV_eq]
 refine⟨rfl,fun h v v2 hv hw=>(rcmp_ok hv hw (rat_qb g) (rat_qb k) (by omega)).mono fun r h' q=>q.2.trans ?_⟩
 rw[←cmp_rat,e1,e2,e3,e4];rfl
theorem num_rturn:Num 178 rturnS:=num_q ⟨_,Proofs.Tryz.func178,rfl⟩ fun n b x c y r g h0=>by
 cases h0
 refine⟨⟨?_,g.1.2⟩,fun h v hv=>(rturned_ok hv).mono fun r h' q=>?_⟩
 ·cases n
  ·intro h1 h2
   rw[h2] at h1;cases h1
  ·intro h1;cases h1
 ·have : -qrat n x y=qrat (iB n false (Nat.ble 1 x)) x y:=by
   unfold qrat
   rw[Rat.neg_divInt]
   congr 1
   cases n
   ·cases x with
    | zero=>rfl
    | succ x=>rfl
   ·exact Int.neg_neg _
  show PRat h' r (qrat _ x y)
  rw[←this];exact q.2
theorem num_rtold:Num 106 rtoldS:=num_q ⟨_,Proofs.Tryz.func106,rfl⟩ fun n b x c y r g h0=>by
 cases h0
 have y0:=g.1.2.1
 have e:toldF (sI n x) (Int.ofNat y)=toldV (qrat n x y):=by
  rw[toldF_eq (by show(0:Int)<(y:Int);omega),sI_eq];rfl
 rw[e]
 exact⟨plain_toldV _,fun h v hv=>(rtold_ok hv).mono fun r h' q=>q.2⟩
theorem num_whole:Num 150 wholeS:=num_l ⟨_,Proofs.Tryz.func150,rfl⟩ fun n b x r g h0=>by
 cases h0
 exact⟨⟨g.1,by omega,Nat.gcd_one_right x⟩,fun h v hv=>(whole_ok hv).mono fun r h' q=>by
  show PRat h' r (qrat n x 1)
  rw[qrat_one];exact q.2⟩
theorem onInt_some {k:Int→Option NR} {v:Value} {r:NR} (h:onInt k v=some r) : ∃n,v=KI n∧k n=some r:=by
 unfold onInt at h
 split at h
 case h_2=>cases h
 exact⟨_,rfl,h⟩
theorem num_rfrom:Num 91 rfromS:=num_v ⟨_,Proofs.Tryz.func91,rfl⟩ fun v r h0=>by
 obtain⟨n,rfl,h0⟩:=onInt_some h0
 obtain⟨h1,h0⟩:=iB_some h0
 cases h0
 refine⟨ratR_good _ (by omega),fun h=>(rfrom_ok n (in64F_eq h1)).mono fun r h' q=>ratR_real (by omega) ?_⟩
 rw[show Rat.divInt n ((1:Nat):Int)=(n:Rat) from Rat.num_divInt_den (n:Rat)]
 exact q.2
theorem num_read:Num 92 readS:=num_v ⟨_,Proofs.Tryz.func92,rfl⟩ fun v r h0=>by
 cases hs:shareF v pairK with
 | none=>rw[hs] at h0;cases h0
 | some w =>
  rw[hs,bO_some] at h0
  obtain⟨p,hp,rfl,h1⟩:=shareF_some hs
  cases h1
  change iB (okF (wdI p.1) (wdI p.2)) (iN (wdI p.2) fun _ y=>some (ratR (wdI p.1) y)) none=some r at h0
  obtain⟨h1,h0⟩:=iB_some h0
  have ok:=okF_ok h1
  rw[iN_eq] at h0
  cases h0
  have d0:=ok.1
  have e:((wdI p.2).natAbs:Int)=wdI p.2:=by omega
  refine⟨ratR_good _ (by omega),fun h=>(shread_ok p.1 p.2 hp.1 hp.2).mono fun r h' q=>ratR_real (by omega) ?_⟩
  rw[e]
  show PPair h' r (rOf p).num ((rOf p).den:Int)
  rw[(rOf_parts ok).1,(rOf_parts ok).2]
  exact q.2
theorem num_wplus:Num 217 wplusS:=num_ll ⟨_,Proofs.Tryz.func217,rfl⟩ fun n b x m c y r g k h0=>by
 cases h0
 refine⟨longR_good _,fun h v v2 hv hw=>(pplus_ok hv hw (long_small g) (long_small k)).mono fun r h' q=>longR_real ?_⟩
 rw[sI_eq,sI_eq];exact q.2
theorem num_wminus:Num 243 wminusS:=num_ll ⟨_,Proofs.Tryz.func243,rfl⟩ fun n b x m c y r g k h0=>by
 cases h0
 refine⟨longR_good _,fun h v v2 hv hw=>(pminus_ok hv hw (long_small g) (long_small k)).mono fun r h' q=>longR_real ?_⟩
 rw[sI_eq,sI_eq];exact q.2
theorem num_wtimes:Num 87 wtimesS:=num_ll ⟨_,Proofs.Tryz.func87,rfl⟩ fun n b x m c y r g k h0=>by
 cases h0
 refine⟨longR_good _,fun h v v2 hv hw=>(ptimes_ok hv hw (long_half g) (long_half k)).mono fun r h' q=>longR_real ?_⟩
 rw[sI_eq,sI_eq];exact q.2
theorem num_wcmp:Num 177 wcmpS:=num_ll ⟨_,Proofs.Tryz.func177,rfl⟩ fun n b x m c y r g k h0=>by
 cases h0
 rw[sgnV_eq,sI_eq,sI_eq]
 exact⟨rfl,fun h v v2 hv hw=>(pcmp_ok hv hw (long_small g) (long_small k)).mono fun r h' q=>q.2⟩
theorem num_wcommon:Num 185 wcommonS:=num_ll ⟨_,Proofs.Tryz.func185,rfl⟩ fun n b x m c y r g k h0=>by
 cases h0
 refine⟨(fun h=>by cases h),fun h v v2 hv hw=>(pcommon_ok hv hw (long_small g) (long_small k)).mono fun r h' q=>?_⟩
 have:=q.2
 unfold Int.gcd at this
 rw[sint_abs,sint_abs] at this
 exact this
theorem num_wparts:Num 186 wpartsS:=num_ll ⟨_,Proofs.Tryz.func186,rfl⟩ fun n b x m c y r g k h0=>by
 obtain⟨h1,h0⟩:=iB_some' h0
 cases h0
 have y0:sint m y≠0:=fun h=>by
  have e:(sint m y).natAbs=0:=by rw[h];rfl
  rw[sint_abs] at e
  rw[e] at h1;cases h1
 refine⟨twoR_good _ _,fun h v v2 hv hw=>(pparts_ok hv hw (long_small g) (long_small k) y0).mono fun r h' q=>twoR_real ?_⟩
 rw[sI_eq,sI_eq];exact q.2
theorem num_wturn:Num 187 wturnS:=num_l ⟨_,Proofs.Tryz.func187,rfl⟩ fun n b x r g h0=>by
 cases h0
 refine⟨?_,fun h v hv=>(pturned_ok hv).mono fun r h' q=>?_⟩
 ·cases n
  ·intro h1 h2
   rw[h2] at h1;cases h1
  ·intro h1;cases h1
 ·have : -sint n x=sint (iB n false (Nat.ble 1 x)) x:=by
   cases n
   ·cases x with
    | zero=>rfl
    | succ x=>rfl
   ·exact Int.neg_neg _
  show PLong h' r (sint _ x)
  rw[←this];exact q.2
theorem num_wside:Num 77 wsideS:=num_l ⟨_,Proofs.Tryz.func77,rfl⟩ fun n b x r g h0=>by
 cases h0
 rw[sgnV_zero,sI_eq]
 exact⟨rfl,fun h v hv=>(pside_ok hv).mono fun r h' q=>q.2⟩
theorem num_wfrom:Num 84 wfromS:=num_v ⟨_,Proofs.Tryz.func84,rfl⟩ fun v r h0=>by
 obtain⟨n,rfl,h0⟩:=onInt_some h0
 obtain⟨h1,h0⟩:=iB_some h0
 cases h0
 exact⟨longR_good _,fun h=>(pfrom_ok n (in64F_eq h1)).mono fun r h' q=>longR_real q.2⟩
theorem num_wlonger:Num 86 wlongerS:=num_v ⟨_,Proofs.Tryz.func86,rfl⟩ fun v r h0=>by
 cases hs:wideF v (fun n=>some (.int .i64 n)) with
 | none=>rw[hs] at h0;cases h0
 | some w =>
  rw[hs,bO_some] at h0
  obtain⟨n,hn,rfl,h1⟩:=wideF_some hs
  cases h1
  cases h0
  exact⟨longR_good _,fun h=>(longer_ok n hn).mono fun r h' q=>longR_real q.2⟩
theorem num_wtold:Num 88 wtoldS:=num_l ⟨_,Proofs.Tryz.func88,rfl⟩ fun n b x r g h0=>by
 have pl : ∀z,plain (wdV z)=true:=fun z=>by
  show(wdC z).toArray.all scal=true
  rw[wdC,List.all_toArray,List.all_map]
  simp[scal]
 have ew : ∀z,Value.agg ⟨wordsL 8 z []⟩=wdV z:=fun z=>by
  unfold wdV wdC
  rw[wordsL_eq,List.append_nil]
 have key : ∀z e,(NR.val (.tuple #[.agg ⟨wordsL 8 z []⟩,KI e])).good:=fun z e=>by
  rw[ew]
  show [wdV z,KI e].all plain=true
  rw[List.all_cons,pl];rfl
 change iB (inF (sI n x)) _ _=some r at h0
 rw[iB_eq,inF_eq,sI_eq] at h0
 by_cases c:InW (sint n x)
 ·rw[decide_eq_true c] at h0
  cases h0
  refine⟨key _ _,fun h v hv=>(ptold_ok hv).mono fun r h' q=>q.2.trans ?_⟩
  rw[if_pos c,ew,wordF_eq c]
 ·rw[decide_eq_false c] at h0
  cases h0
  refine⟨key _ _,fun h v hv=>(ptold_ok hv).mono fun r h' q=>q.2.trans ?_⟩
  rw[if_neg c,ew]
end Go.Id

namespace Go.Id
open Go
noncomputable section
def tbOf (l:List (FuncId×(List Value→Option Value))) (f:FuncId):Option (List Value→Option Value):=List.rec (motive:=fun _=>Option (List Value→Option Value)) none (fun p _ ih=>iB (Nat.beq f p.1) (some p.2) ih) l
def EntryOK (P:Program) (f:FuncId) (g:List Value→Option Value):Prop :=
 (∃fn,P.funcs[f]?=some fn∧fn.body.isSome=true) ∧ ∀args v,args.all plain=true→g args=some v→plainT v=true∧Gives P f args v
theorem tbOf_mem : ∀{l:List (FuncId×(List Value→Option Value))} {f:FuncId} {g:List Value→Option Value},tbOf l f=some g→(f,g)∈l
 | [],_,_,h=>by cases h
 | p :: l,f,g,h=>by
  change iB (Nat.beq f p.1) (some p.2) (tbOf l f)=some g at h
  rw[iB_eq] at h
  cases hb:Nat.beq f p.1 with
  | true =>
   rw[hb] at h;cases h
   have:=Nat.beq_eq.mp hb
   subst this
   exact List.mem_cons_self
  | false =>
   rw[hb] at h
   exact List.mem_cons_of_mem _ (tbOf_mem h)
theorem sound_tb {P:Program} (S:Sound (E0 P)) {l:List (FuncId×(List Value→Option Value))} (h : ∀p∈l,EntryOK P p.1 p.2):Sound (E1 P (tbOf l)) :=
 sound1 S (fun f g hg=>(h _ (tbOf_mem hg)).1) (fun f g hg=>(h _ (tbOf_mem hg)).2)
theorem entry_wv {P:Program} (S:Sound (E0 P)) {f:FuncId} {fn:Func} (hf:P.funcs[f]?=some fn) (hb:fn.body.isSome=true) {g:List Value→Option Value}
  (h : ∀args v,args.all plain=true→g args=some v→plainT v=true∧WV P (.func (.func f) #[] #[]) args (IH.start fun _=>none) fun r _=>r=v):EntryOK P f g :=
 ⟨⟨fn,hf,hb⟩,fun args v hp e=>⟨(h args v hp e).1,gives_wv S ⟨fn,hf,hb⟩ hp (h args v hp e).2⟩⟩
def okT (args:List Value):Option Value:=match args with
 | []=>some (.bool true)
 | _=>none
theorem entry_true {E:Env} (S:Sound E) {n:Nat} {f:FuncId} {fn:Func} (hf:E.P.funcs[f]?=some fn) (hb:fn.body.isSome=true) (h:boolF E (n+1) f (fun _=>none)=true):EntryOK E.P f okT:=by
 refine⟨⟨fn,hf,hb⟩,fun args v hp e=>?_⟩
 unfold okT at e
 split at e
 ·cases e
  obtain⟨h',hr⟩:=boolF_true h
  exact⟨rfl,gives_run S hr ⟨fn,hf,hb⟩ hp⟩
 ·cases e
end
end Go.Id

namespace Go.Id
open Go
noncomputable section
abbrev NumE:=FuncId×(List NK×(List NV→Option NR))
def tnOf (l:List NumE) (f:FuncId):Option (List Value→IH→Option (Value×IH)):=List.rec (motive:=fun _=>Option (List Value→IH→Option (Value×IH))) none (fun p _ ih=>iB (Nat.beq f p.1) (some (nint p.2.1 p.2.2)) ih) l
theorem tnOf_mem : ∀{l:List NumE} {f:FuncId} {g:List Value→IH→Option (Value×IH)},tnOf l f=some g → ∃p∈l,p.1=f∧g=nint p.2.1 p.2.2
 | [],_,_,h=>by cases h
 | p :: l,f,g,h=>by
  change iB (Nat.beq f p.1) (some (nint p.2.1 p.2.2)) (tnOf l f)=some g at h
  rw[iB_eq] at h
  cases hb:Nat.beq f p.1 with
  | true =>
   rw[hb] at h;cases h
   exact⟨p,List.mem_cons_self,(Nat.beq_eq.mp hb).symm,rfl⟩
  | false =>
   rw[hb] at h
   obtain⟨q,h1,h2⟩:=tnOf_mem h
   exact⟨q,List.mem_cons_of_mem _ h1,h2⟩
theorem sound_tn {P:Program} (S:Sound (E0 P)) {tb:List (FuncId×(List Value→Option Value))} (h : ∀p∈tb,EntryOK P p.1 p.2) {tn:List NumE} (k : ∀p∈tn,NumFn P p.1 p.2.2):Sound (E2 P (tbOf tb) (tnOf tn)) :=
 sound2 S (sound_tb S h) fun f g hg=>by
  obtain⟨p,h1,h2,h3⟩:=tnOf_mem hg
  exact⟨p.2.1,p.2.2,h3,h2▸k p h1⟩
end
end Go.Id

namespace Go.Proofs.YtnanhedgenokpaaGreat
open Go.ChangeShapes Go.WideShapes Go.ChangeAt Go.RowKit Go.Id
noncomputable def tn2:List NumE:=[(92,[.val],readS),(91,[.val],rfromS),(150,[.long],wholeS),(106,[.rat],rtoldS),(178,[.rat],rturnS),(130,[.rat,.rat],rplusS),(96,[.rat,.rat],rminusS),(93,[.rat,.rat],rtimesS),(94,[.rat,.rat],roverS),(95,[.rat,.rat],rcmpS),(86,[.val],wlongerS),(84,[.val],wfromS),(88,[.long],wtoldS),(187,[.long],wturnS),(77,[.long],wsideS),(217,[.long,.long],wplusS),(243,[.long,.long],wminusS),(87,[.long,.long],wtimesS),(177,[.long,.long],wcmpS),(185,[.long,.long],wcommonS),(186,[.long,.long],wpartsS)]
theorem num_2 : ∀p∈tn2,NumFn Tryz.prog p.1 p.2.2:=by
 intro p hp
 simp only[tn2,List.mem_cons,List.not_mem_nil,or_false] at hp
 rcases hp with rfl|rfl|rfl|rfl|rfl|rfl|rfl|rfl|rfl|rfl|rfl|rfl|rfl|rfl|rfl|rfl|rfl|rfl|rfl|rfl|rfl
 ·exact num_read
 ·exact num_rfrom
 ·exact num_whole
 ·exact num_rtold
 ·exact num_rturn
 ·exact num_rplus
 ·exact num_rminus
 ·exact num_rtimes
 ·exact num_rover
 ·exact num_rcmp
 ·exact num_wlonger
 ·exact num_wfrom
 ·exact num_wtold
 ·exact num_wturn
 ·exact num_wside
 ·exact num_wplus
 ·exact num_wminus
 ·exact num_wtimes
 ·exact num_wcmp
 ·exact num_wcommon
 ·exact num_wparts
noncomputable def tb2:List (FuncId×(List Value→Option Value)):=[(33,make2),(131,of2),(55,of2),(147,check1),(46,cmp2)]
theorem val_2 : ∀p∈tb2,EntryOK Tryz.prog p.1 p.2:=by
 intro p hp
 simp only[tb2,List.mem_cons,List.not_mem_nil,or_false] at hp
 rcases hp with rfl|rfl|rfl|rfl|rfl
 ·exact entry_wv Tryz.sound Tryz.func33 rfl val_make
 ·exact entry_wv Tryz.sound Tryz.func131 rfl val_of
 ·exact entry_wv Tryz.sound Tryz.func55 rfl val_of02
 ·exact entry_wv Tryz.sound Tryz.func147 rfl val_check
 ·exact entry_wv Tryz.sound Tryz.func46 rfl val_cmp
theorem sound_2:Sound (E2 Tryz.prog (tbOf tb2) (tnOf tn2)):=sound_tn Tryz.sound val_2 num_2
end Go.Proofs.YtnanhedgenokpaaGreat

namespace Go.Proofs.YtnanhedgenokpaaGreat
open Go.ChangeShapes Go.WideShapes Go.ChangeAt Go.RowKit Go.Id
theorem works34_true:boolF (E2 Tryz.prog (tbOf tb2) (tnOf tn2)) (4999+1) 10 (fun _=>none)=true:=by decide +kernel
noncomputable def tbT:FuncId→Option (List Value→Option Value):=tbOf [(10,okT)]
theorem sound_T:Sound (E1 Tryz.prog tbT):=sound_tb Tryz.sound fun p hp=>by
 obtain rfl:=List.mem_singleton.1 hp
 exact entry_true (E:=E2 Tryz.prog (tbOf tb2) (tnOf tn2)) sound_2 Tryz.func10 rfl works34_true
end Go.Proofs.YtnanhedgenokpaaGreat

namespace Go.Id
open Go
open Go.Proofs.Tryz (prog)
open Nat renaming reduceAdd→zA,reduceEqDiff→zE,reduceLeDiff→zL
set_option maxHeartbeats 16000000
theorem size_eql {n m:Nat} (hn:n<W8) (hm:m<W8) (ox oy:Operand):binop prog .eql 234 ox oy (.agg (wdC n).toArray) (.agg (wdC m).toArray)=some (.bool (decide (n=m))):=by
 rw[wdC_map,wdC_map,binop_eql_arr u234 u28 sz28 eg234 _ _ _ _ (by simp) (by simp),wd_dec hn hm]
theorem sizeZero_ok {h:IH} (n:Nat) (hn:n<W8):WV prog (.func (.func 279) #[] #[]) [wdV n] h fun r h'=>Ext h h'∧r=.bool (decide (n=0)):=by
 have hz : ∀ox oy,binop prog .eql 234 ox oy (.agg (wdC n).toArray) (.agg #[ZW,ZW,ZW,ZW,ZW,ZW,ZW,ZW])=some (.bool (decide (n=0))):=fun ox oy=>by
  rw[wd_zero,wdV,size_eql hn (by have:=H8_two;have:=H8_pos;omega)]
 have E1:Ext h (h.new (.cells (wdC n) 0 none)):=(Ext.refl h).new _
 refine enter (nt:=6) (rs:=[.tmp 2]) Proofs.Tryz.func279 rfl rfl rfl (by simp) ?_
 simp -dsimp (disch:=try exact dx) only[wpS,wpT,zE,zL,ld234,bv234,cells8,wdC_len,wd_take0,hz]
 exact E1
theorem bld_num {b:Bool} {n:Nat}:buildV prog 236 [(0,.bool b),(1,wdV n)]=some (numV b n):=by
 kernel_rfl
theorem wof_ok {h:IH} (b:Bool) (n:Nat) (hn:n<W8):WV prog (.func (.func 270) #[] #[]) [.bool b,wdV n] h fun r h'=>Ext h h'∧r=numV (b && !decide (n=0)) n:=by
 obtain⟨H0,hH0,n0,E0,k0,k1⟩:=boxes2 h (wdC n) [.bool false,ZW,ZW,ZW,ZW,ZW,ZW,ZW,ZW]
 refine enter (nt:=13) (rs:=[.cell 4 236]) Proofs.Tryz.func270 rfl rfl rfl (by simp) ?_
 simp -dsimp (disch:=try exact dx) only[wpS,zE,zA,zc236,cells8]
 rw[←hH0]
 clear hH0
 have X0:=Ext.refl H0
 have L1:load prog H0 234 (ptr (2*h.n) 0)=some (wdV n):=by
  have r:=row_of k0
  simp -dsimp (disch:=try exact dx) only[wpS,zL,ld234,r,wdC_len,wd_take0]
  rfl
 refine drawn [(6,[3])] (by kernel_rfl) (by kernel_rfl) rfl ?_
 cases b with
 | true =>
  simp -dsimp (disch:=try exact dx) only[wpS,wpT,zE,zL,ld234,row_of k0,wdC_len,wd_take0]
  refine call (sizeZero_ok n hn) ?_
  rintro _ h1 ⟨X1,rfl⟩
  have m1:=X1.n
  have q0:=X1.kept (by omega) k0
  have q1:=X1.kept (by omega) k1
  simp -dsimp (disch:=try exact dx) only[wpS,wpT,zE,zL,zA,ld234,st236,row_of q0,q1,wdC_len,wd_take0,show(.agg (wdC n).toArray:Value)=wdV n from rfl,bld_num,num_cells,wdC_all,wd_spl]
  refine⟨wpSteady_one rfl rfl rfl rfl (steady_ext (H0:=H0) rfl (by omega) X1 X0 L1),?_⟩
  simp -dsimp (disch:=try exact dx) only[wpS,wpT,zE,zL,zA,ld236,num_take9,wdC_len]
  exact⟨(E0.trans X1).put (by omega) _,rfl⟩
 | false =>
  simp -dsimp (disch:=try exact dx) only[wpS,wpT,zE,zL,zA,ld234,st236,row_of k0,k1,wdC_len,wd_take0,show(.agg (wdC n).toArray:Value)=wdV n from rfl,bld_num,num_cells,wdC_all,wd_spl]
  refine⟨wpSteady_one rfl rfl rfl rfl (steady_ext (H0:=H0) rfl (by omega) X0 X0 L1),?_⟩
  simp -dsimp (disch:=try exact dx) only[wpS,wpT,zE,zL,zA,ld236,num_take9,wdC_len]
  exact⟨E0.put (by omega) _,rfl⟩
end Go.Id
