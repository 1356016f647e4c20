/-
  The functions on fractions and integers of any length, by value: what is reckoned here is 
-/
import Derived.Test.YtnnmjocmapilaaaGreatOutlierRisesAt
set_option linter.unusedVariables false
set_option linter.unusedSimpArgs false
set_option linter.defProp false
set_option linter.deprecated false
namespace Go.Id
open Go
noncomputable section
def iN {α:Type} (a:Int) (k:Bool→Nat→α):α:=Int.rec (motive:=fun _=>α) (fun n=>fN n (k false)) (fun n=>fN (Nat.succ n) (k true)) a
theorem Ie {α:Type} (a:Int) (k:Bool→Nat→α):iN a k=k (decide (a<0)) a.natAbs:=by
 cases a with
 | ofNat n =>
  show fN n (k false)=k (decide ((n:Int)<0)) n
  rw[dX,decide_eq_false (by omega)]
 | negSucc n =>
  show fN (n+1) (k true)=k (decide (Int.negSucc n<0)) (n+1)
  rw[dX,decide_eq_true (by omega)]
def sI (n:Bool) (x:Nat):Int:=iB n (Int.neg (Int.ofNat x)) (Int.ofNat x)
theorem jo (n:Bool) (x:Nat):sI n x=sint n x:=by cases n<;>rfl
def vK (a:Int):NR:=iN a NR.long
def Ao (a:Int) (d:Nat):NR:=iN a fun s x=>fN (Nat.gcd x d) fun g=>fN (Nat.div x g) fun x=>fN (Nat.div d g) fun y=>.rat s x y
def Qs (a b:Int):NR:=iN a fun s x=>iN b fun k y=>.two s x k y
theorem sD (a:Int):sint (decide (a<0)) a.natAbs=a:=by
 unfold sint
 by_cases h:a<0
 ·rw[if_pos (decide_eq_true h)];omega
 ·rw[if_neg (by simpa using h)];omega
theorem QH (s:Bool) (x g:Nat):sint s (x*g)=sint s x*g:=by
 unfold sint
 split
 ·rw[Int.natCast_mul,Int.neg_mul]
 ·rw[Int.natCast_mul]
theorem HR (a:Int):vK a=.long (decide (a<0)) a.natAbs:=by unfold vK;rw[Ie]
theorem Ls (a b:Int):Qs a b=.two (decide (a<0)) a.natAbs (decide (b<0)) b.natAbs:=by unfold Qs;rw[Ie,Ie]
variable {a:Int}
theorem ER (h:decide (a<0)=true):a.natAbs≠0:=by have:=of_decide_eq_true h;omega
theorem mM (a:Int):(vK a).jF:=by rw[HR];exact ER
variable {v:Value}{h:IH}
theorem mL (p:a9 h v a):(vK a).real h v:=by
 rw[HR]
 show a9 h v (sint _ _)
 rw[sD];exact p
theorem NZ (a b:Int):(Qs a b).jF:=by rw[Ls];exact⟨ER,ER⟩
theorem NY {b:Int} (p : ∃q t,v=.tuple #[q,t]∧a9 h q a∧a9 h t b):(Qs a b).real h v:=by
 rw[Ls]
 show ∃q t,v=.tuple #[q,t]∧a9 h q (sint _ _)∧a9 h t (sint _ _)
 rw[sD,sD];exact p
variable {d:Nat}
theorem Mb (a:Int) (hd:0<d) : ∃x y,Ao a d=.rat (decide (a<0)) x y∧sint (decide (a<0)) x=(Rat.divInt a d).num∧y=(Rat.divInt a d).den∧(a<0→x≠0):=by
 have g0:0<Nat.gcd a.natAbs d:=Nat.gcd_pos_of_pos_right _ hd
 have k1:a.natAbs / Nat.gcd a.natAbs d*Nat.gcd a.natAbs d=a.natAbs:=Nat.div_mul_cancel (Nat.gcd_dvd_left _ _)
 have k2:d / Nat.gcd a.natAbs d*Nat.gcd a.natAbs d=d:=Nat.div_mul_cancel (Nat.gcd_dvd_right _ _)
 obtain⟨l1,l2⟩:=nD (n:=a) (d:=d) (by omega)
 have eg:Int.gcd a d=Nat.gcd a.natAbs d:=by unfold Int.gcd;rw[Int.natAbs_natCast]
 rw[eg] at l1 l2
 refine⟨a.natAbs / Nat.gcd a.natAbs d,d / Nat.gcd a.natAbs d,?_,?_,?_,fun h e=>?_⟩
 ·unfold Ao
  rw[Ie,dX,dX,dX];rfl
 ·rw[←l1]
  have:a=sint (decide (a<0)) (a.natAbs / Nat.gcd a.natAbs d)*(Nat.gcd a.natAbs d:Nat):=by rw[←QH,k1,sD]
  exact(Int.ediv_eq_of_eq_mul_left (by omega) this).symm
 ·rw[←Int.natCast_ediv] at l2
  exact Int.ofNat.inj l2
 ·rw[e] at k1;omega
theorem mh (a:Int) (hd:0<d):(Ao a d).jF:=by
 obtain⟨x,y,e,e1,e2,e3⟩:=Mb a hd
 rw[e]
 refine⟨fun h=>e3 (of_decide_eq_true h),?_,?_⟩
 ·rw[e2];exact Rat.den_nz _
 ·have r:=(Rat.divInt a d).reduced
  rw[←e1,←e2,iL] at r
  exact r
theorem mg (hd:0<d) (p:bt h v (Rat.divInt a d)):(Ao a d).real h v:=by
 obtain⟨x,y,e,e1,e2,e3⟩:=Mb a hd
 rw[e]
 show bt h v (kU _ _ _)
 unfold kU
 rw[e1,e2,Rat.num_divInt_den];exact p
theorem Rd (n:Bool) (x:Nat):kU n x 1=(sint n x:Rat):=Rat.num_divInt_den ((sint n x:Int):Rat)
variable {x:Nat}
theorem Tx {k:Nat} (h:gK x≤64) (hk:64*64≤k):x≤2 ^ k:=by
 have a:=TY x
 have p:(18446744073709551616:Nat) ^ gK x=2 ^ (64*gK x):=by rw[Nat.pow_mul]
 rw[p] at a
 exact Nat.le_trans (Nat.le_of_lt a) (Nat.pow_le_pow_right (by omega) (by omega))
theorem FP (h:gK x≤64):x≤2 ^ 4096:=Tx (k:=4096) h (Nat.le_refl _)
variable {b c y:Nat}{n:Bool}
theorem vn (g:(NV.rat n b x c y).jF):(kU n x y).num=sint n x∧(kU n x y).den=y:=ud g.1.2.1 g.1.2.2
theorem nZ (g:(NV.rat n b x c y).jF):QB 4096 (kU n x y):=by
 obtain⟨e1,e2⟩:=vn g
 exact⟨by rw[e1,iL];exact FP g.2.1,by rw[e2];exact FP g.2.2⟩
theorem w9 (g:(NV.long n b x).jF):DP (sint n x):=aU (k:=4096) (by rw[iL];exact FP g.2) (by omega)
theorem fy (g:(NV.long n b x).jF):aX (sint n x):=(w9 g).small
variable {us:List Value}
theorem Jy {a:NV} (R:IV h [a] us) : ∃v,us = [v]∧a.real h v:=by
 match us,R with
 | [],R=>exact R.elim
 | [v],R=>exact⟨v,rfl,R.1⟩
 | _ :: _ :: _,R=>exact R.2.elim
theorem Q5 {a b:NV} (R:IV h [a,b] us) : ∃v w,us = [v,w]∧a.real h v∧b.real h w:=by
 match us,R with
 | [],R=>exact R.elim
 | [_],R=>exact R.2.elim
 | [v,w],R=>exact⟨v,w,rfl,R.1,R.2.1⟩
 | _ :: _ :: _ :: _,R=>exact R.2.2.elim
def onV (k:Value→Option NR) (l:List NV):Option NR:=match l with
 | [.val v]=>k v
 | _=>none
def onL (k:Bool→Nat→Option NR) (l:List NV):Option NR:=match l with
 | [.long n _ x]=>k n x
 | _=>none
def onQ (k:Bool→Nat→Nat→Option NR) (l:List NV):Option NR:=match l with
 | [.rat n _ x _ y]=>k n x y
 | _=>none
def Hs (k:Bool→Nat→Bool→Nat→Option NR) (l:List NV):Option NR:=match l with
 | [.long n _ x,.long m _ y]=>k n x m y
 | _=>none
def JO (k:Bool→Nat→Nat→Bool→Nat→Nat→Option NR) (l:List NV):Option NR:=match l with
 | [.rat n _ x _ y,.rat m _ u _ w]=>k n x y m u w
 | _=>none
variable {f:FuncId}{P:Program}
theorem Mx {k:Value→Option NR} (hb : ∃fn,P.funcs[f]?=some fn∧fn.body.isSome=true)
  (w : ∀v r,k v=some r→r.jF ∧ ∀h,WV P (.func (.func f) #[] #[]) [v] h fun u h'=>r.real h' u):tT P f (onV k) where
 body:=hb
 right:=fun al r hg e=>by
  unfold onV at e
  split at e
  case h_2=>cases e
  obtain⟨h1,h2⟩:=w _ _ e
  refine⟨h1,fun h us R=>?_⟩
  obtain⟨v,rfl,rfl⟩:=Jy R
  exact h2 h
theorem My {k:Bool→Nat→Option NR} (hb : ∃fn,P.funcs[f]?=some fn∧fn.body.isSome=true)
  (w : ∀n b x r,(NV.long n b x).jF→k n x=some r→r.jF ∧ ∀h v,a9 h v (sint n x)→WV P (.func (.func f) #[] #[]) [v] h fun u h'=>r.real h' u):tT P f (onL k) where
 body:=hb
 right:=fun al r hg e=>by
  unfold onL at e
  split at e
  case h_2=>cases e
  obtain⟨h1,h2⟩:=w _ _ _ _ (hg _ List.mem_cons_self) e
  refine⟨h1,fun h us R=>?_⟩
  obtain⟨v,rfl,p⟩:=Jy R
  exact h2 h v p
theorem Wz {k:Bool→Nat→Nat→Option NR} (hb : ∃fn,P.funcs[f]?=some fn∧fn.body.isSome=true)
  (w : ∀n b x c y r,(NV.rat n b x c y).jF→k n x y=some r→r.jF ∧ ∀h v,bt h v (kU n x y)→WV P (.func (.func f) #[] #[]) [v] h fun u h'=>r.real h' u):tT P f (onQ k) where
 body:=hb
 right:=fun al r hg e=>by
  unfold onQ at e
  split at e
  case h_2=>cases e
  obtain⟨h1,h2⟩:=w _ _ _ _ _ _ (hg _ List.mem_cons_self) e
  refine⟨h1,fun h us R=>?_⟩
  obtain⟨v,rfl,p⟩:=Jy R
  exact h2 h v p
theorem w7 {k:Bool→Nat→Bool→Nat→Option NR} (hb : ∃fn,P.funcs[f]?=some fn∧fn.body.isSome=true)
  (w : ∀n b x m c y r,(NV.long n b x).jF→(NV.long m c y).jF→k n x m y=some r→r.jF ∧ ∀h v v2,a9 h v (sint n x)→a9 h v2 (sint m y)→WV P (.func (.func f) #[] #[]) [v,v2] h fun u h'=>r.real h' u):tT P f (Hs k) where
 body:=hb
 right:=fun al r hg e=>by
  unfold Hs at e
  split at e
  case h_2=>cases e
  obtain⟨h1,h2⟩:=w _ _ _ _ _ _ _ (hg _ List.mem_cons_self) (hg _ (List.mem_cons_of_mem _ List.mem_cons_self)) e
  refine⟨h1,fun h us R=>?_⟩
  obtain⟨v,v2,rfl,p,q⟩:=Q5 R
  exact h2 h v v2 p q
theorem AA {k:Bool→Nat→Nat→Bool→Nat→Nat→Option NR} (hb : ∃fn,P.funcs[f]?=some fn∧fn.body.isSome=true)
  (w : ∀n b x c y m d u e z r,(NV.rat n b x c y).jF→(NV.rat m d u e z).jF→k n x y m u z=some r→r.jF ∧ ∀h v v2,bt h v (kU n x y)→bt h v2 (kU m u z)→WV P (.func (.func f) #[] #[]) [v,v2] h fun u h'=>r.real h' u):tT P f (JO k) where
 body:=hb
 right:=fun al r hg e=>by
  unfold JO at e
  split at e
  case h_2=>cases e
  obtain⟨h1,h2⟩:=w _ _ _ _ _ _ _ _ _ _ _ (hg _ List.mem_cons_self) (hg _ (List.mem_cons_of_mem _ List.mem_cons_self)) e
  refine⟨h1,fun h us R=>?_⟩
  obtain⟨v,v2,rfl,p,q⟩:=Q5 R
  exact h2 h v v2 p q
def Oe (z:Int):NR:=Int.rec (motive:=fun _=>NR) (fun n=>Nat.rec (motive:=fun _=>NR) (.val (.int .i64 (Int.ofNat 0))) (fun _ _=>.val (.int .i64 (Int.ofNat 1))) n) (fun _=>.val (.int .i64 (Int.negSucc 0))) z
theorem Ep (x y:Int):Oe (Int.sub x y)=.val (KI (if x<y then -1 else if x=y then 0 else 1)):=by
 unfold Oe
 have e:Int.sub x y=x - y:=rfl
 rw[e]
 cases h:x - y with
 | ofNat n =>
  have h:x - y=(n:Int):=h
  cases n with
  | zero=>rw[if_neg (by omega),if_pos (by omega)];rfl
  | succ m=>rw[if_neg (by omega),if_neg (by omega)];rfl
 | negSucc n=>rw[if_pos (by omega)];rfl
theorem Od (x:Int):Oe x=.val (KI (if x<0 then -1 else if x=0 then 0 else 1)):=by
 rw[←Ep x 0]
 congr 1
 exact(Int.sub_zero x).symm
def Wx (n d:Int):Option Value:=some (.tuple #[.int .i64 n,.int .i64 d])
def Yj (k:Int→Int→Option NR) (v:Value):Option NR:=match v with
 | .tuple cs=>match cs.toList with
  | [.int _ n,.int _ d]=>k n d
  | _=>none
 | _=>none
def Ht (k:Int→Option NR) (v:Value):Option NR:=match v with
 | .int .i64 n=>k n
 | _=>none
def Wp:List NV→Option NR:=onV fun v=>bO (ub v Wx) (Yj fun n d=>iB (okF n d) (iN d fun _ y=>some (Ao n y)) none)
def Q3:List NV→Option NR:=onV (Ht fun n=>iB (Ib n) (some (Ao n 1)) none)
def Qe:List NV→Option NR:=onL fun n x=>some (.rat n x 1)
def QX:List NV→Option NR:=onQ fun n x y=>some (.val (xN (sI n x) (Int.ofNat y)))
def QV:List NV→Option NR:=onQ fun n x y=>some (.rat (iB n false (Nat.ble 1 x)) x y)
def Q0:List NV→Option NR:=JO fun n x y m u z=>some (Ao (Int.add (Int.mul (sI n x) (Int.ofNat z)) (Int.mul (sI m u) (Int.ofNat y))) (Nat.mul y z))
def L0:List NV→Option NR:=JO fun n x y m u z=>some (Ao (Int.sub (Int.mul (sI n x) (Int.ofNat z)) (Int.mul (sI m u) (Int.ofNat y))) (Nat.mul y z))
def LU:List NV→Option NR:=JO fun n x y m u z=>some (Ao (Int.mul (sI n x) (sI m u)) (Nat.mul y z))
def Q1:List NV→Option NR:=JO fun n x y m u z=>iB (Nat.beq u 0) none (some (Ao (Int.mul (sI n x) (sI m z)) (Nat.mul y u)))
def Wr:List NV→Option NR:=JO fun n x y m u z=>some (Oe (Int.sub (Int.mul (sI n x) (Int.ofNat z)) (Int.mul (sI m u) (Int.ofNat y))))
def Gl:List NV→Option NR:=onV fun v=>bO (Ch v fun n=>some (.int .i64 n)) (Ht fun n=>some (vK n))
def Qf:List NV→Option NR:=onV (Ht fun n=>iB (Ib n) (some (vK n)) none)
def P6:List NV→Option NR:=onL fun n x=>iB (inF (sI n x)) (some (.val (.tuple #[.agg ⟨qE 8 (Li (sI n x)) []⟩,.int .i64 0]))) (some (.val (.tuple #[.agg ⟨qE 8 0 []⟩,.int .i64 6])))
def P5:List NV→Option NR:=onL fun n x=>some (.long (iB n false (Nat.ble 1 x)) x)
def P7:List NV→Option NR:=onL fun n x=>some (Oe (sI n x))
def Qb:List NV→Option NR:=Hs fun n x m y=>some (vK (Int.add (sI n x) (sI m y)))
def Lj:List NV→Option NR:=Hs fun n x m y=>some (vK (Int.sub (sI n x) (sI m y)))
def Lf:List NV→Option NR:=Hs fun n x m y=>some (vK (Int.mul (sI n x) (sI m y)))
def V9:List NV→Option NR:=Hs fun n x m y=>some (Oe (Int.sub (sI n x) (sI m y)))
def Gu:List NV→Option NR:=Hs fun _ x _ y=>some (.long false (Nat.gcd x y))
def Lg:List NV→Option NR:=Hs fun n x m y=>iB (Nat.beq y 0) none (some (Qs (Int.ediv (sI n x) (sI m y)) (Int.emod (sI n x) (sI m y))))
end
abbrev Num (f:FuncId) (sem:List NV→Option NR):Prop:=tT Proofs.Tryz.prog f sem
theorem mU {n m:Bool} {b x c y d u e z:Nat} (g:(NV.rat n b x c y).jF) (k:(NV.rat m d u e z).jF) :
  (kU n x y).num=sI n x∧((kU n x y).den:Int)=y∧(kU m u z).num=sI m u∧((kU m u z).den:Int)=z∧0<y*z:=by
 rw[(vn g).1,(vn g).2,(vn k).1,(vn k).2,jo,jo]
 exact⟨rfl,rfl,rfl,rfl,Nat.mul_pos (Nat.pos_of_ne_zero g.1.2.1) (Nat.pos_of_ne_zero k.1.2.1)⟩
theorem OL:Num 83 Q0:=AA ⟨_,Proofs.Tryz.func83,rfl⟩ fun n b x c y m d u e z r g k h0=>by
 cases h0
 obtain⟨e1,e2,e3,e4,p⟩:=mU g k
 refine⟨mh _ p,fun h v v2 hv hw=>(iM hv hw (nZ g) (nZ k) (by omega)).mono fun r h' q=>mg p ?_⟩
 have:=q.2
 rw[vo,e1,e2,e3,e4] at this
 exact this
theorem JY:Num 198 L0:=AA ⟨_,Proofs.Tryz.func198,rfl⟩ fun n b x c y m d u e z r g k h0=>by
 cases h0
 obtain⟨e1,e2,e3,e4,p⟩:=mU g k
 refine⟨mh _ p,fun h v v2 hv hw=>(Ok hv hw (nZ g) (nZ k) (by omega)).mono fun r h' q=>mg p ?_⟩
 have:=q.2
 rw[Ra,e1,e2,e3,e4] at this
 exact this
theorem JX:Num 87 LU:=AA ⟨_,Proofs.Tryz.func87,rfl⟩ fun n b x c y m d u e z r g k h0=>by
 cases h0
 obtain⟨e1,e2,e3,e4,p⟩:=mU g k
 refine⟨mh _ p,fun h v v2 hv hw=>(jq hv hw (nZ g) (nZ k) (by omega)).mono fun r h' q=>mg p ?_⟩
 have:=q.2
 rw[yV,e1,e2,e3,e4] at this
 exact this
theorem N8 (n m:Bool) (x y z u:Nat):Rat.divInt (sint n x*z) ((y:Int)*sint m u)=Rat.divInt (sint n x*sint m z) ((y:Int)*u):=by
 cases m
 ·rfl
 ·show Rat.divInt (sint n x*z) ((y:Int) * -(u:Int))=Rat.divInt (sint n x * -(z:Int)) _
  rw[Int.mul_neg,Rat.divInt_neg',Int.mul_neg]
theorem OM:Num 84 Q1:=AA ⟨_,Proofs.Tryz.func84,rfl⟩ fun n b x c y m d u e z r g k h0=>by
 obtain⟨h1,h0⟩:=mN h0
 cases h0
 obtain⟨e1,e2,e3,e4,_⟩:=mU g k
 have u0:u≠0:=fun h=>by rw[h] at h1;cases h1
 have p:0<y*u:=Nat.mul_pos (Nat.pos_of_ne_zero g.1.2.1) (Nat.pos_of_ne_zero u0)
 have q0:kU m u z≠0:=fun h=>by
  rw[h,jo] at e3
  have:(sint m u).natAbs=0:=by rw[←e3];rfl
  rw[iL] at this
  exact u0 this
 refine⟨mh _ p,fun h v v2 hv hw=>(Ah hv hw (nZ g) (nZ k) (by omega) q0).mono fun r h' q=>mg p ?_⟩
 have:=q.2
 rw[yW,e1,e2,e3,e4,jo,jo,N8,←jo,←jo] at this
 exact this
theorem Ry:Num 90 Wr:=AA ⟨_,Proofs.Tryz.func90,rfl⟩ fun n b x c y m d u e z r g k h0=>by
 cases h0
 obtain⟨e1,e2,e3,e4,p⟩:=mU g k
 rw[Ep]
 refine⟨rfl,fun h v v2 hv hw=>(sG hv hw (nZ g) (nZ k) (by omega)).mono fun r h' q=>q.2.trans ?_⟩
 rw[←FG,e1,e2,e3,e4];rfl
theorem OJ:Num 247 QV:=Wz ⟨_,Proofs.Tryz.func247,rfl⟩ fun n b x c y r g h0=>by
 cases h0
 refine⟨⟨?_,g.1.2⟩,fun h v hv=>(Af hv).mono fun r h' q=>?_⟩
 ·cases n
  ·intro h1 h2
   rw[h2] at h1;cases h1
  ·intro h1;cases h1
 ·have : -kU n x y=kU (iB n false (Nat.ble 1 x)) x y:=by
   unfold kU
   rw[Rat.neg_divInt]
   congr 1
   cases n
   ·cases x with
    | zero=>rfl
    | succ x=>rfl
   ·exact Int.neg_neg _
  show bt h' r (kU _ x y)
  rw[←this];exact q.2
theorem OK:Num 132 QX:=Wz ⟨_,Proofs.Tryz.func132,rfl⟩ fun n b x c y r g h0=>by
 cases h0
 have y0:=g.1.2.1
 have e:xN (sI n x) (Int.ofNat y)=gN (kU n x y):=by
  rw[zO (by show(0:Int)<(y:Int);omega),jo];rfl
 rw[e]
 exact⟨nA _,fun h v hv=>(vh hv).mono fun r h' q=>q.2⟩
theorem OH:Num 131 Qe:=My ⟨_,Proofs.Tryz.func131,rfl⟩ fun n b x r g h0=>by
 cases h0
 exact⟨⟨g.1,by omega,Nat.gcd_one_right x⟩,fun h v hv=>(uM hv).mono fun r h' q=>by
  show bt h' r (kU n x 1)
  rw[Rd];exact q.2⟩
theorem Ay {k:Int→Option NR} {v:Value} {r:NR} (h:Ht k v=some r) : ∃n,v=KI n∧k n=some r:=by
 unfold Ht at h
 split at h
 case h_2=>cases h
 exact⟨_,rfl,h⟩
theorem ON:Num 75 Q3:=Mx ⟨_,Proofs.Tryz.func75,rfl⟩ fun v r h0=>by
 obtain⟨n,rfl,h0⟩:=Ay h0
 obtain⟨h1,h0⟩:=cG h0
 cases h0
 refine⟨mh _ (by omega),fun h=>(fe n (iR h1)).mono fun r h' q=>mg (by omega) ?_⟩
 rw[show Rat.divInt n ((1:Nat):Int)=(n:Rat) from Rat.num_divInt_den (n:Rat)]
 exact q.2
theorem Rx:Num 156 Wp:=Mx ⟨_,Proofs.Tryz.func156,rfl⟩ fun v r h0=>by
 cases hs:ub v Wx with
 | none=>rw[hs] at h0;cases h0
 | some w =>
  rw[hs,a8] at h0
  obtain⟨p,hp,rfl,h1⟩:=nu hs
  cases h1
  change iB (okF (wdI p.1) (wdI p.2)) (iN (wdI p.2) fun _ y=>some (Ao (wdI p.1) y)) none=some r at h0
  obtain⟨h1,h0⟩:=cG h0
  have ok:=EM h1
  rw[Ie] at h0
  cases h0
  have d0:=ok.1
  have e:((wdI p.2).natAbs:Int)=wdI p.2:=by omega
  refine⟨mh _ (by omega),fun h=>(dj p.1 p.2 hp.1 hp.2).mono fun r h' q=>mg (by omega) ?_⟩
  rw[e]
  show rW h' r (rOf p).num ((rOf p).den:Int)
  rw[(cZ ok).1,(cZ ok).2]
  exact q.2
theorem OG:Num 187 Qb:=w7 ⟨_,Proofs.Tryz.func187,rfl⟩ fun n b x m c y r g k h0=>by
 cases h0
 refine⟨mM _,fun h v v2 hv hw=>(qY hv hw (fy g) (fy k)).mono fun r h' q=>mL ?_⟩
 rw[jo,jo];exact q.2
theorem JW:Num 242 Lj:=w7 ⟨_,Proofs.Tryz.func242,rfl⟩ fun n b x m c y r g k h0=>by
 cases h0
 refine⟨mM _,fun h v v2 hv hw=>(CJ hv hw (fy g) (fy k)).mono fun r h' q=>mL ?_⟩
 rw[jo,jo];exact q.2
theorem JU:Num 104 Lf:=w7 ⟨_,Proofs.Tryz.func104,rfl⟩ fun n b x m c y r g k h0=>by
 cases h0
 refine⟨mM _,fun h v v2 hv hw=>(gD hv hw (w9 g) (w9 k)).mono fun r h' q=>mL ?_⟩
 rw[jo,jo];exact q.2
theorem Rw:Num 190 V9:=w7 ⟨_,Proofs.Tryz.func190,rfl⟩ fun n b x m c y r g k h0=>by
 cases h0
 rw[Ep,jo,jo]
 exact⟨rfl,fun h v v2 hv hw=>(EG hv hw (fy g) (fy k)).mono fun r h' q=>q.2⟩
theorem HB:Num 207 Gu:=w7 ⟨_,Proofs.Tryz.func207,rfl⟩ fun n b x m c y r g k h0=>by
 cases h0
 refine⟨(fun h=>by cases h),fun h v v2 hv hw=>(uh hv hw (fy g) (fy k)).mono fun r h' q=>?_⟩
 have:=q.2
 unfold Int.gcd at this
 rw[iL,iL] at this
 exact this
theorem JV:Num 206 Lg:=w7 ⟨_,Proofs.Tryz.func206,rfl⟩ fun n b x m c y r g k h0=>by
 obtain⟨h1,h0⟩:=mN h0
 cases h0
 have y0:sint m y≠0:=fun h=>by
  have e:(sint m y).natAbs=0:=by rw[h];rfl
  rw[iL] at e
  rw[e] at h1;cases h1
 refine⟨NZ _ _,fun h v v2 hv hw=>(sH hv hw (fy g) (fy k) y0).mono fun r h' q=>NY ?_⟩
 rw[jo,jo];exact q.2
theorem OD:Num 236 P5:=My ⟨_,Proofs.Tryz.func236,rfl⟩ fun n b x r g h0=>by
 cases h0
 refine⟨?_,fun h v hv=>(mD hv).mono fun r h' q=>?_⟩
 ·cases n
  ·intro h1 h2
   rw[h2] at h1;cases h1
  ·intro h1;cases h1
 ·have : -sint n x=sint (iB n false (Nat.ble 1 x)) x:=by
   cases n
   ·cases x with
    | zero=>rfl
    | succ x=>rfl
   ·exact Int.neg_neg _
  show a9 h' r (sint _ x)
  rw[←this];exact q.2
theorem OF:Num 92 P7:=My ⟨_,Proofs.Tryz.func92,rfl⟩ fun n b x r g h0=>by
 cases h0
 rw[Od,jo]
 exact⟨rfl,fun h v hv=>(mE hv).mono fun r h' q=>q.2⟩
theorem OI:Num 101 Qf:=Mx ⟨_,Proofs.Tryz.func101,rfl⟩ fun v r h0=>by
 obtain⟨n,rfl,h0⟩:=Ay h0
 obtain⟨h1,h0⟩:=cG h0
 cases h0
 exact⟨mM _,fun h=>(vB n (iR h1)).mono fun r h' q=>mL q.2⟩
theorem Hz:Num 103 Gl:=Mx ⟨_,Proofs.Tryz.func103,rfl⟩ fun v r h0=>by
 cases hs:Ch v (fun n=>some (.int .i64 n)) with
 | none=>rw[hs] at h0;cases h0
 | some w =>
  rw[hs,a8] at h0
  obtain⟨n,hn,rfl,h1⟩:=tW hs
  cases h1
  cases h0
  exact⟨mM _,fun h=>(jt n hn).mono fun r h' q=>mL q.2⟩
theorem OE:Num 105 P6:=My ⟨_,Proofs.Tryz.func105,rfl⟩ fun n b x r g h0=>by
 have pl : ∀z,plain (wdV z)=true:=fun z=>by
  show(wdC z).toArray.all bA=true
  rw[wdC,List.all_toArray,List.all_map]
  simp[bA]
 have ew : ∀z,Value.agg ⟨qE 8 z []⟩=wdV z:=fun z=>by
  unfold wdV wdC
  rw[sA,List.append_nil]
 have key : ∀z e,(NR.val (.tuple #[.agg ⟨qE 8 z []⟩,KI e])).jF:=fun z e=>by
  rw[ew]
  show [wdV z,KI e].all plain=true
  rw[List.all_cons,pl];rfl
 change iB (inF (sI n x)) _ _=some r at h0
 rw[eG,Kc,jo] at h0
 by_cases c:InW (sint n x)
 ·rw[decide_eq_true c] at h0
  cases h0
  refine⟨key _ _,fun h v hv=>(qW hv).mono fun r h' q=>q.2.trans ?_⟩
  rw[if_pos c,ew,zC c]
 ·rw[decide_eq_false c] at h0
  cases h0
  refine⟨key _ _,fun h v hv=>(qW hv).mono fun r h' q=>q.2.trans ?_⟩
  rw[if_neg c,ew]
noncomputable section
def Eg (l:List (FuncId×(List Value→Option Value))) (f:FuncId):Option (List Value→Option Value):=List.rec (motive:=fun _=>Option (List Value→Option Value)) none (fun p _ ih=>iB (Nat.beq f p.1) (some p.2) ih) l
def wI (P:Program) (f:FuncId) (g:List Value→Option Value):Prop :=
 (∃fn,P.funcs[f]?=some fn∧fn.body.isSome=true) ∧ ∀args v,args.all plain=true→g args=some v→mF v=true∧NL P f args v
theorem zQ : ∀{l:List (FuncId×(List Value→Option Value))} {f:FuncId} {g:List Value→Option Value},Eg l f=some g→(f,g)∈l
 | [],_,_,h=>by cases h
 | p :: l,f,g,h=>by
  change iB (Nat.beq f p.1) (some p.2) (Eg l f)=some g at h
  rw[eG] at h
  cases hb:Nat.beq f p.1 with
  | true =>
   rw[hb] at h;cases h
   have:=Nat.beq_eq.mp hb
   subst this
   exact List.mem_cons_self
  | false =>
   rw[hb] at h
   exact List.mem_cons_of_mem _ (zQ h)
variable {P:Program}
theorem GR (S:Sound (E0 P)) {l:List (FuncId×(List Value→Option Value))} (h : ∀p∈l,wI P p.1 p.2):Sound (E1 P (Eg l)) :=
 XO S (fun f g hg=>(h _ (zQ hg)).1) (fun f g hg=>(h _ (zQ hg)).2)
variable {f:FuncId}{fn:Func}
theorem rN (S:Sound (E0 P)) (hf:P.funcs[f]?=some fn) (hb:fn.body.isSome=true) {g:List Value→Option Value}
  (h : ∀args v,args.all plain=true→g args=some v→mF v=true∧WV P (.func (.func f) #[] #[]) args (IH.start fun _=>none) fun r _=>r=v):wI P f g :=
 ⟨⟨fn,hf,hb⟩,fun args v hp e=>⟨(h args v hp e).1,Sr S ⟨fn,hf,hb⟩ hp (h args v hp e).2⟩⟩
def okT (args:List Value):Option Value:=match args with
 | []=>some (.bool true)
 | _=>none
theorem KA {E:Env} (S:Sound E) {n:Nat} (hf:E.P.funcs[f]?=some fn) (hb:fn.body.isSome=true) (h:Nv E (n+1) f (fun _=>none)=true):wI E.P f okT:=by
 refine⟨⟨fn,hf,hb⟩,fun args v hp e=>?_⟩
 unfold okT at e
 split at e
 ·cases e
  obtain⟨h',hr⟩:=KR h
  exact⟨rfl,Dc S hr ⟨fn,hf,hb⟩ hp⟩
 ·cases e
end
noncomputable section
abbrev VV:=FuncId×(List NK×(List NV→Option NR))
def N2 (l:List VV) (f:FuncId):Option (List Value→IH→Option (Value×IH)):=List.rec (motive:=fun _=>Option (List Value→IH→Option (Value×IH))) none (fun p _ ih=>iB (Nat.beq f p.1) (some (J3 p.2.1 p.2.2)) ih) l
theorem GC : ∀{l:List VV} {f:FuncId} {g:List Value→IH→Option (Value×IH)},N2 l f=some g → ∃p∈l,p.1=f∧g=J3 p.2.1 p.2.2
 | [],_,_,h=>by cases h
 | p :: l,f,g,h=>by
  change iB (Nat.beq f p.1) (some (J3 p.2.1 p.2.2)) (N2 l f)=some g at h
  rw[eG] at h
  cases hb:Nat.beq f p.1 with
  | true =>
   rw[hb] at h;cases h
   exact⟨p,List.mem_cons_self,(Nat.beq_eq.mp hb).symm,rfl⟩
  | false =>
   rw[hb] at h
   obtain⟨q,h1,h2⟩:=GC h
   exact⟨q,List.mem_cons_of_mem _ h1,h2⟩
theorem QF {P:Program} (S:Sound (E0 P)) {tb:List (FuncId×(List Value→Option Value))} (h : ∀p∈tb,wI P p.1 p.2) {tn:List VV} (k : ∀p∈tn,tT P p.1 p.2.2):Sound (E2 P (Eg tb) (N2 tn)) :=
 XN S (GR S h) fun f g hg=>by
  obtain⟨p,h1,h2,h3⟩:=GC hg
  exact⟨p.2.1,p.2.2,h3,h2▸k p h1⟩
end
end Go.Id
namespace Go.Proofs.YtnnmjocmapilaaaGreat
open Go.ChangeShapes Go.WideShapes Go.ChangeAt Go.RowKit Go.Id
noncomputable def tn2:List VV:=[(156,[.val],Wp),(75,[.val],Q3),(131,[.long],Qe),(132,[.rat],QX),(247,[.rat],QV),(83,[.rat,.rat],Q0),(198,[.rat,.rat],L0),(87,[.rat,.rat],LU),(84,[.rat,.rat],Q1),(90,[.rat,.rat],Wr),(103,[.val],Gl),(101,[.val],Qf),(105,[.long],P6),(236,[.long],P5),(92,[.long],P7),(187,[.long,.long],Qb),(242,[.long,.long],Lj),(104,[.long,.long],Lf),(190,[.long,.long],V9),(207,[.long,.long],Gu),(206,[.long,.long],Lg)]
theorem ZaQ : ∀p∈tn2,tT Tryz.prog p.1 p.2.2:=by
 intro p hp
 simp only[tn2,List.mem_cons,List.not_mem_nil,or_false] at hp
 rcases hp with rfl|rfl|rfl|rfl|rfl|rfl|rfl|rfl|rfl|rfl|rfl|rfl|rfl|rfl|rfl|rfl|rfl|rfl|rfl|rfl|rfl
 ·exact Rx
 ·exact ON
 ·exact OH
 ·exact OK
 ·exact OJ
 ·exact OL
 ·exact JY
 ·exact JX
 ·exact OM
 ·exact Ry
 ·exact Hz
 ·exact OI
 ·exact OE
 ·exact OD
 ·exact OF
 ·exact OG
 ·exact JW
 ·exact JU
 ·exact Rw
 ·exact HB
 ·exact JV
noncomputable def tb2:List (FuncId×(List Value→Option Value)):=[(189,RO),(88,of2),(42,of2),(128,KL),(26,cmp2)]
theorem Z4 : ∀p∈tb2,wI Tryz.prog p.1 p.2:=by
 intro p hp
 simp only[tb2,List.mem_cons,List.not_mem_nil,or_false] at hp
 rcases hp with rfl|rfl|rfl|rfl|rfl
 ·exact rN Tryz.sound Tryz.func189 rfl Qn
 ·exact rN Tryz.sound Tryz.func88 rfl XB
 ·exact rN Tryz.sound Tryz.func42 rfl Qm
 ·exact rN Tryz.sound Tryz.func128 rfl NW
 ·exact rN Tryz.sound Tryz.func26 rfl Ub
theorem Uq:Sound (E2 Tryz.prog (Eg tb2) (N2 tn2)):=QF Tryz.sound Z4 ZaQ
theorem DW:Nv (E2 Tryz.prog (Eg tb2) (N2 tn2)) (4999+1) 15 (fun _=>none)=true:=by decide +kernel
noncomputable def tbO:FuncId→Option (List Value→Option Value):=Eg [(15,okT)]
theorem Up:Sound (E1 Tryz.prog tbO):=GR Tryz.sound fun p hp=>by
 obtain rfl:=List.mem_singleton.1 hp
 exact KA (E:=E2 Tryz.prog (Eg tb2) (N2 tn2)) Uq Tryz.func15 rfl DW
end Go.Proofs.YtnnmjocmapilaaaGreat
namespace Go.Id
open Go


end Go.Id
namespace Go.Id

open Go
theorem tQ (P:Program) (t:TypeId) (ox oy:Operand) (a b:Nat) (ha:a<18446744073709551616) (hb:b<18446744073709551616):binop P .xor t ox oy (.int .u64 a) (.int .u64 b)=some (.int .u64 ((a ^^^ b:Nat):Int)):=by
 have e:(BitVec.ofInt 64 (a:Int) ^^^ BitVec.ofInt 64 (b:Int)).toNat=a ^^^ b:=by simp[Nat.mod_eq_of_lt ha,Nat.mod_eq_of_lt hb]
 rw[tR,show(BitVec.ofInt IntKind.u64.bits (a:Int) ^^^ BitVec.ofInt IntKind.u64.bits (b:Int)).toNat=a ^^^ b from e,dQ (Nat.xor_lt_two_pow (n:=64) ha hb)]
theorem tk1 (a:Value):List.take 1 (List.drop 0 [a]) = [a]:=rfl


theorem Le {x:Nat} (hx:x<9223372036854775808):x ^^^ 9223372036854775808=x+9223372036854775808:=by
 have h1:x<2 ^ 63:=hx
 have h2:=Nat.two_pow_add_eq_or_of_lt h1 1
 rw[Nat.mul_one] at h2
 rw[show(9223372036854775808:Nat)=2 ^ 63 from rfl,Nat.add_comm,h2]
 apply Nat.eq_of_testBit_eq
 intro i
 rw[Nat.testBit_xor,Nat.testBit_or,Nat.testBit_two_pow]
 by_cases hi:63=i
 ·subst hi
  rw[Nat.testBit_lt_two_pow h1]
  decide
 ·simp[hi]
variable {a:Nat}
theorem DR (ha:a<H8):wrd a 7<9223372036854775808:=(Xv (by have:=eP;omega)).2 ha
theorem Ll (ha:a<H8):IH.aJ (wdC a) 7 [K64 (wrd a 7+9223372036854775808)]=wdC (a+H8):=by
 have ht:=DR ha
 have hw:a<18446744073709551616 ^ (7+1):=by rw[←wF];have:=eP;omega
 have e:H8=9223372036854775808*18446744073709551616 ^ 7:=by unfold H8;rfl
 apply List.ext_getElem?
 intro j
 have hl:(IH.aJ (wdC a) 7 [K64 (wrd a 7+9223372036854775808)]).length=8:=by simp[IH.aJ,aA]
 by_cases h8:j<8
 ·rw[dG _ _ h8,e]
  by_cases h7:j=7
  ·subst h7
   rw[zw hw (by omega)]
   simp[IH.aJ,aA]
  ·rw[qA (by omega)]
   have hj:j<7:=by omega
   simp only[IH.aJ]
   rw[List.getElem?_append_left (by rw[List.length_take,aA];omega),List.getElem?_take,if_pos hj,dG _ _ h8]
 ·rw[List.getElem?_eq_none (by omega),List.getElem?_eq_none (by rw[aA];omega)]
def ji (h:IH) (v:Value) (ll:List (List (Nat×Nat))):Prop:=∃vs:List Value,bH h 1 v ll.length vs∧ll.length<1152921504606846976 ∧ ∀(i:Nat) (x:List (Nat×Nat)),ll[i]?=some x → ∃w,vs[i]?=some w∧gw h w x
variable {v:Value}{h:IH}{ll:List (List (Nat×Nat))}{h':IH}
theorem ji.aa (s:ji h v ll) (e:aK h h'):ji h' v ll:=by
 obtain⟨vs,a,b,c⟩:=s
 refine⟨vs,a.aa e,b,fun i x hx=>?_⟩
 obtain⟨w,h1,h2⟩:=c i x hx
 exact⟨w,h1,h2.aa e⟩
theorem ji.at (s:ji h v ll) (e:aK h h') {i:Nat} {x:List (Nat×Nat)} (hx:ll[i]?=some x) :
  ∃w,load Proofs.Tryz.prog h' 61 (aP v i)=some w∧gw h' w x ∧ ∀k:IntKind,indexAddr Proofs.Tryz.prog 38 v (.int k (i:Int))=some (aP v i):=by
 obtain⟨vs,a,b,c⟩:=s
 obtain⟨w,h1,h2⟩:=c i x hx
 have hi:=(List.getElem?_eq_some_iff.1 hx).1
 refine⟨w,?_,h2.aa e,fun k=>by rw[a.idx es38 hi,Nat.mul_one]⟩
 rw[a.ld e (by rw[a.2.1];omega) ZG]
 exact h1
theorem ji.co (s:ji h v ll):v.cells = #[v]∧aB v=true ∧ ∀h',ot Proofs.Tryz.prog h' 38 v=some (.int .i64 ll.length):=by
 obtain⟨vs,a,_⟩:=s
 exact⟨a.cells,a.cok,fun h'=>a.len sl38 h'⟩
theorem gw.co {l:List (Nat×Nat)} (s:gw h v l):v.cells = #[v]∧aB v=true:=⟨s.1.cells,s.1.cok⟩
open Go.Proofs.Tryz (prog)
open Nat renaming reduceAdd→zA,reduceEqDiff→zE,reduceLeDiff→zL
set_option maxHeartbeats 16000000
def yN (p:Nat×Nat):Prop:=¬okS p.1 p.2∨wdI p.1<0
def mB (l:List (Nat×Nat)):Prop:=(∀p∈l,¬yN p)∧gi (l.map rOf)=1
def dK (ll:List (List (Nat×Nat))):Prop:=1≤ll.length∧ll.length≤60 ∧ ∀l∈ll,l.length=ll.length∧mB l
theorem EP {p:Nat×Nat} (h : ¬yN p):okS p.1 p.2∧0≤wdI p.1:=by
 unfold yN at h
 refine⟨Classical.byContradiction fun hn=>h (.inl hn),?_⟩
 have : ¬wdI p.1<0:=fun hn=>h (.inr hn)
 omega
open Classical in
theorem SA {h:IH} {p:Nat×Nat} (h1:p.1<W8) (h2:p.2<W8) :
  WV prog (.func (.func 203) #[] #[]) [shV p.1 p.2] h fun r h'=>Ext h h'∧r=.bool (decide (yN p)):=by
 have E1:Ext h (h.new (.cells (shC p.1 p.2) 0 none)):=(Ext.refl h).new _
 have g1:(h.new (.cells (shC p.1 p.2) 0 none)).ext.get h.n=some (.cells (shC p.1 p.2) 0 none):=by simp (disch:=omega) only[ah]
 refine enter (nt:=13) (rs:=[.tmp 2]) Proofs.Tryz.func203 rfl rfl rfl (by simp) ?_
 simp -dsimp (disch:=omega) only[wpS,zE,zL,cq,aD,ax,aS]
 refine call (pD p.1 p.2 h1 h2) ?_
 rintro _ v1 ⟨X1,rfl⟩
 have m1:=X1.n
 simp only[aH] at m1
 by_cases ok:okS p.1 p.2
 case neg =>
  rw[if_neg ok,decide_eq_true (show yN p from .inl ok)]
  simp -dsimp (disch:=omega) only[wpS,wpT,zE]
  exact E1.trans X1
 rw[if_pos ok]
 simp -dsimp (disch:=omega) only[wpS,wpT,zE,zL,cq,aj (X1.kept (by simp) g1),ax,aS]
 refine call (dj p.1 p.2 h1 h2) ?_
 rintro _ v2 ⟨X2,a,s,b,t,rfl,q1,q2⟩
 simp -dsimp (disch:=omega) only[wpS,wpT,zE,VC]
 refine call (mE q1) ?_
 rintro _ v3 ⟨X3,rfl⟩
 have XX:=((E1.trans X1).trans X2).trans X3
 by_cases c:wdI p.1<0
 ·rw[if_pos c,decide_eq_true (show yN p from .inr c)]
  simp -dsimp (disch:=omega) only[wpS,wpT,zE]
  exact XX
 ·rw[if_neg c,decide_eq_false (show ¬yN p from fun h=>h.elim (fun h=>h ok) c)]
  obtain⟨z,hz,hz0⟩ : ∃z:Int,(if wdI p.1=0 then (0:Int) else 1)=z∧0≤z:=⟨_,rfl,by split<;>omega⟩
  rw[hz]
  simp -dsimp (disch:=omega) only[wpS,wpT,zE]
  exact XX
open Classical in
theorem tD {h:IH} {v F:Value} {l:List (Nat×Nat)} (hv:gw h v l) (B:Nat×Nat→Prop) (hF : ∀h1 p,Ext h h1→p∈l→WV prog F [shV p.1 p.2] h1 fun r h2=>Ext h1 h2∧r=.bool (decide (B p))) :
  WV prog (.func (.func 173) #[] #[]) [v,F] h fun r h'=>Ext h h'∧r=.bool (decide (∃p∈l,B p)):=by
 have hlb:=hv.2.1
 have Sf:WV prog (.func (.func 228) #[] #[]) [v,F] h fun r h'=>Ext h h' ∧ ∃c:Int,r=KI c∧(0≤c ↔ ∃p∈l,B p):=by
  refine enter (nt:=19) (rs:=[.tmp 4]) Proofs.Tryz.func228 rfl rfl rfl (by simp) ?_
  simp -dsimp (disch:=omega) only[wpS,zE,zA,hv.1.len tZ]
  refine loop (fun m fr h1 => ∃i:Nat,i+m=l.length∧Ext h h1∧(∀(j:Nat) p,j<i→l[j]?=some p → ¬B p)∧ab fr 0=some v∧ab fr 1=some F∧ab fr 7=some (KN l.length)∧ab fr 8=some (KN i)) l.length
   ⟨0,by omega,Ext.refl _,fun j p hj=>by omega,by simp⟩ ?_
  rintro m fr h1 ⟨i,him,hE,hno,f0,f1,f7,f8⟩
  simp -dsimp (disch:=omega) only[wpS,f7,f8]
  refine au ?_ ?_<;>intro hc<;>simp only[decide_eq_true_eq,decide_eq_false_iff_not] at hc
  ·have hi:i<l.length:=by omega
   obtain⟨p,hp⟩:=iC (l:=l) (i:=i) hi
   have hpm:=List.mem_of_getElem? hp
   simp -dsimp (disch:=omega) only[wpS,wpT,zE,f0,f1,f8,hv.1.idx xl hi,hv.ld hE.aa hp]
   refine call (hF h1 p hE hpm) ?_
   rintro _ h2 ⟨hE2,rfl⟩
   have E2:=hE.trans hE2
   by_cases hk:B p
   ·rw[decide_eq_true hk]
    simp -dsimp (disch:=omega) only[wpS,zE]
    exact⟨E2,(i:Int),rfl,fun _=>⟨p,hpm,hk⟩,fun _=>by omega⟩
   ·rw[decide_eq_false hk]
    simp -dsimp (disch:=omega) only[wpS,zE,f8]
    refine⟨m - 1,by omega,i+1,by omega,E2,?_,by simp[f0,f1,f7]⟩
    intro j q hj hq
    by_cases hji:j=i
    ·subst hji;rw[hp] at hq;cases hq;exact hk
    ·exact hno j q (by omega) hq
  ·simp -dsimp (disch:=omega) only[wpS,wpT]
   refine⟨hE,-1,rfl,fun h=>by omega,fun⟨p,hp,hb⟩=>?_⟩
   obtain⟨j,hj⟩:=List.getElem?_of_mem hp
   have:=(List.getElem?_eq_some_iff.1 hj).1
   exact absurd hb (hno j p (by omega) hj)
 refine enter (nt:=9) (rs:=[.tmp 4]) Proofs.Tryz.func173 rfl rfl rfl (by simp) ?_
 simp -dsimp (disch:=omega) only[wpS,zE,zA]
 refine call Sf ?_
 rintro _ h1 ⟨hE,c,rfl,hc⟩
 simp -dsimp (disch:=omega) only[wpS,zE]
 exact⟨hE,by rw[decide_eq_decide.2 hc]⟩
theorem O5 {h:IH} {v:Value} {l:List (Nat×Nat)} (hv:gw h v l) (ho : ∀p∈l,okS p.1 p.2) (hl:l.length≤1000) :
  WV prog (.func (.func 204) #[] #[]) [v,(.func (.func 156) #[] #[])] h fun r h'=>Ext h h'∧bt h' r (gi (l.map rOf))∧QB (l.length*(512+1)) (gi (l.map rOf)):=by
 have hq0 : ∀q∈l.map rOf,QB 512 q:=by
  intro q hq
  obtain⟨p,hp,rfl⟩:=List.mem_map.1 hq
  exact iO (hv.2.2 p hp).1 (hv.2.2 p hp).2 (ho p hp)
 have hQ : ∀i,i≤l.length→QB (i*(512+1)) (gi ((l.take i).map rOf)):=by
  intro i hi
  have:=QB.gi (k:=512) hq0 i (by simpa using hi)
  rwa [←List.map_take] at this
 refine enter (nt:=22) (rs:=[.cell 4 137]) Proofs.Tryz.func204 rfl rfl rfl (by simp) ?_
 simp -dsimp (disch:=omega) only[wpS,zA,dW]
 have E1:Ext h (h.new (.cells ZR 0 none)):=(Ext.refl h).new _
 have g1:(h.new (.cells ZR 0 none)).ext.get h.n=some (.cells ZR 0 none):=by simp (disch:=omega) only[ah]
 refine call (fe 0 ⟨by omega,by omega⟩) ?_
 rintro z h1 ⟨X1,p1⟩
 have m1:=X1.n
 simp only[aH] at m1
 obtain⟨a3,s3,b3,t3,rfl,_,_,d1,o1,d2,o2,o3,o4⟩:=p1.parts
 have kg:=X1.kept (by simp) g1
 simp -dsimp (disch:=omega) only[wpS,wpT,zE,zL,zA,dW,df,o1,o2,o3,o4,hv.1.len tZ]
 have Ex2:Ext h1 ((h1.new (.cells ZR 0 none)).put h1.n (.cells [a3,s3,b3,t3] 0 none)):=((Ext.refl h1).new _).put (Nat.le_refl _) _
 refine loop (fun m fr hh => ∃(i:Nat) (a s b t:Value),i+m=l.length∧Ext h hh∧h1.n<hh.n∧hh.ext.get h.n=some (.cells ZR 0 none)∧hh.ext.get h1.n=some (.cells [a,s,b,t] 0 none)∧bt hh (.agg #[a,s,b,t]) (gi ((l.take i).map rOf)) ∧
   ab fr 1=some (.func (.func 156) #[] #[])∧ab fr 4=some (ptr (2*h.n) 0)∧ab fr 5=some (ptr (2*h1.n) 0)∧ab fr 9=some v∧ab fr 10=some (KN l.length)∧ab fr 11=some (KN i)) l.length
  ⟨0,a3,s3,b3,t3,by omega,(E1.trans X1).trans Ex2,by simp,by simp (disch:=omega) only[aq,ak];exact kg,by simp (disch:=omega) only[ae],p1.aa Ex2.aa,by simp⟩ ?_
 clear p1 kg Ex2
 rintro m fr hh ⟨i,a,s,b,t,him,hE,hn,hg,hg5,hp,f1,f4,f5,f9,f10,f11⟩
 simp -dsimp (disch:=omega) only[wpS,zA,f10,f11]
 refine au ?_ ?_<;>intro hc<;>simp only[decide_eq_true_eq,decide_eq_false_iff_not] at hc
 ·have hi:i<l.length:=by omega
  obtain⟨q,hq⟩:=iC (l:=l) (i:=i) hi
  have hqm:=List.mem_of_getElem? hq
  obtain⟨w1,w2⟩:=hv.2.2 q hqm
  simp -dsimp (disch:=omega) only[wpS,wpT,zE,zL,zA,fR,dF,f9,f11,hv.1.idx xl hi,hv.ld hE.aa hq,aD,ax,aV,bg]
  obtain⟨H0,hH0⟩:=aT ((hh.new (.cells Z16 0 none)).put hh.n (.cells (shC q.1 q.2) 0 none))
  have e0:Ext hh H0:=by rw[hH0];exact((Ext.refl hh).new _).put (Nat.le_refl _) _
  have n0:H0.n=hh.n+1:=by rw[hH0];rfl
  have gx:H0.ext.get hh.n=some (.cells (shC q.1 q.2) 0 none):=by rw[hH0];simp (disch:=omega) only[ae]
  have hnn:=hE.n
  have gs:=e0.kept hn hg5
  have gz:=e0.kept (by omega) hg
  rw[←hH0]
  clear hH0
  have X0:=Ext.refl H0
  obtain⟨_,_,L1⟩:=pl4 gs
  refine drawn [(0,[4])] (by kernel_rfl) (by kernel_rfl) rfl ?_
  simp -dsimp (disch:=omega) only[wpS,wpT,zE,zL,zA,cq,fO,f1,f5,aj gs,aj gx,fF,ax,aS]
  refine call (dj q.1 q.2 w1 w2) ?_
  rintro r h2 ⟨X2,p2⟩
  have m2:=X2.n
  have p2:=p2.rat (ho q hqm)
  simp -dsimp (disch:=omega) only[wpS,zE]
  have hkb:i*(512+1)+512+1<16000000:=by omega
  refine call (iM (hp.aa (e0.trans X2).aa) p2 (hQ i (by omega)) (iO w1 w2 (ho q hqm)) hkb) ?_
  rintro r3 h3 ⟨hE3,p3⟩
  have m3:=hE3.n
  have X3:=X2.trans hE3
  have eT:gi ((l.take i).map rOf)+rOf (q.1,q.2)=gi ((l.take (i+1)).map rOf):=by rw[eV hq,List.map_append,List.map_cons,List.map_nil,jU]
  rw[eT] at p3
  obtain⟨a4,s4,b4,t4,rfl,_,_,_,o1,_,o2,o3,o4⟩:=p3.parts
  have k5:=X3.kept (by omega) gs
  have kz:=X3.kept (by omega) gz
  simp -dsimp (disch:=omega) only[wpS,wpT,zE,zL,zA,df,f5,k5,o1,o2,o3,o4]
  refine⟨ad rfl rfl rfl rfl (aW (H0:=H0) (b:=2*h1.n) (o:=0) f5 (by omega) (by assumption) (by assumption) L1),?_⟩
  simp -dsimp (disch:=omega) only[wpS,wpT,zE,zA,f11]
  refine⟨m - 1,by omega,i+1,a4,s4,b4,t4,by omega,((hE.trans e0).trans X3).put (by omega) _,by simp only[aM];omega,by simp (disch:=omega) only[ak];exact kz,ae _ _ rfl,p3.aa ((aK.refl _).put k5 _),by simp[f1,f4,f5,f9,f10]⟩
 ·obtain rfl:i=l.length:=by omega
  have hQl:=hQ l.length (Nat.le_refl _)
  rw[List.take_length] at hp hQl
  obtain⟨_,_,_,_,hhe,_,_,_,o1,_,o2,o3,o4⟩:=hp.parts
  cases hhe
  simp -dsimp (disch:=omega) only[wpS,wpT,zE,zL,zA,df,fO,f4,f5,aj hg5,hg,fF,o1,o2,o3,o4]
  exact⟨hE.put (Nat.le_refl _) _,hp.aa ((aK.refl _).put hg _),hQl⟩
open Classical in
theorem VE {h:IH} {v:Value} {l:List (Nat×Nat)} (hv:gw h v l) (hl:l.length≤1000) :
  WV prog (.func (.func 120) #[] #[]) [v] h fun r h'=>Ext h h'∧r=.bool (decide (mB l)):=by
 refine enter (nt:=10) (rs:=[.tmp 2]) Proofs.Tryz.func120 rfl rfl rfl (by simp) ?_
 simp -dsimp (disch:=omega) only[wpS,zE]
 refine call (tD hv yN (fun h1 p _ hp=>SA (hv.2.2 p hp).1 (hv.2.2 p hp).2)) ?_
 rintro _ h1 ⟨X1,rfl⟩
 by_cases c : ∃p∈l,yN p
 ·rw[decide_eq_true c,decide_eq_false (show ¬mB l from fun⟨h1,_⟩=>by obtain⟨p,hp,hb⟩:=c;exact h1 p hp hb)]
  simp -dsimp (disch:=omega) only[wpS,wpT,zE]
  exact X1
 rw[decide_eq_false c]
 have hno : ∀p∈l,¬yN p:=fun p hp hb=>c ⟨p,hp,hb⟩
 simp -dsimp (disch:=omega) only[wpS,zE]
 refine call (O5 (hv.aa X1.aa) (fun p hp=>(EP (hno p hp)).1) hl) ?_
 rintro r2 h2 ⟨X2,p2,q2⟩
 simp -dsimp (disch:=omega) only[wpS]
 refine call (fe 1 ⟨by omega,by omega⟩) ?_
 rintro r3 h3 ⟨X3,p3⟩
 simp -dsimp (disch:=omega) only[wpS,zE]
 refine call (sG (p2.aa X3.aa) p3 q2 (QB.int (k:=64) (by decide)) (by omega)) ?_
 rintro _ h4 ⟨X4,rfl⟩
 have XX:=((X1.trans X2).trans X3).trans X4
 have e1:((1:Int):Rat)=1:=rfl
 rw[e1]
 by_cases c1:gi (l.map rOf)=1
 ·rw[decide_eq_true (show mB l from⟨hno,c1⟩),c1,if_neg (by exact Rat.lt_irrefl),if_pos rfl]
  simp -dsimp (disch:=omega) only[wpS,wpT,zE]
  exact XX
 ·rw[decide_eq_false (show ¬mB l from fun h=>c1 h.2)]
  obtain⟨z,hz,hz0⟩ : ∃z:Int,(if gi (l.map rOf)<1 then (-1:Int) else if gi (l.map rOf)=1 then 0 else 1)=z∧z≠0:=⟨_,rfl,by split<;>simp[]⟩
  rw[hz]
  have d:(z == 0)=false:=by simpa using hz0
  simp -dsimp (disch:=omega) only[wpS,wpT,zE,d]
  exact XX
open Classical in
noncomputable def Vj (ll:List (List (Nat×Nat))):Int:=if dK ll then 0 else 330
open Classical in
theorem Pa {h:IH} {v:Value} {ll:List (List (Nat×Nat))} (hv:ji h v ll) :
  WV prog (.func (.func 45) #[] #[]) [v] h fun r h'=>Ext h h'∧r=KI (Vj ll):=by
 obtain⟨_,_,hlen⟩:=hv.co
 have hlb:=hv.choose_spec.2.1
 unfold Vj
 refine enter (nt:=30) (rs:=[.tmp 2]) Proofs.Tryz.func45 rfl rfl rfl (by simp) ?_
 by_cases a1:ll.length<1
 ·rw[if_neg (fun hk=>by have:=hk.1;omega)]
  simp -dsimp (disch:=omega) only[wpS,wpT,zE,hlen]
  exact Ext.refl _
 by_cases a2:60<ll.length
 ·rw[if_neg (fun hk=>by have:=hk.2.1;omega)]
  simp -dsimp (disch:=omega) only[wpS,wpT,zE,hlen]
  exact Ext.refl _
 simp -dsimp (disch:=omega) only[wpS,wpT,zE,hlen]
 refine loop (fun m fr h1 => ∃i:Nat,i+m=ll.length∧Ext h h1∧(∀(j:Nat) x,j<i→ll[j]?=some x→x.length=ll.length∧mB x)∧ab fr 0=some v∧ab fr 13=some v∧ab fr 14=some (KN ll.length)∧ab fr 15=some (KN i)) ll.length
  ⟨0,by omega,Ext.refl _,fun j p hj=>by omega,by simp⟩ ?_
 rintro m fr h1 ⟨i,him,hE,hok,f0,f13,f14,f15⟩
 simp -dsimp (disch:=omega) only[wpS,f14,f15]
 refine au ?_ ?_<;>intro hc<;>simp only[decide_eq_true_eq,decide_eq_false_iff_not] at hc
 ·have hi:i<ll.length:=by omega
  obtain⟨x,hx⟩:=iC (l:=ll) (i:=i) hi
  have hxm:=List.mem_of_getElem? hx
  obtain⟨w,l1,l2,l3⟩:=hv.at hE.aa hx
  have lx:=l2.2.1
  by_cases cl:x.length=ll.length
  case neg =>
   rw[if_neg (fun hk=>cl (hk.2.2 x hxm).1)]
   have d:(((x.length:Nat):Int) != ((ll.length:Nat):Int))=true:=by simpa using fun h=>cl (by omega)
   simp -dsimp (disch:=omega) only[wpS,wpT,zE,f0,f13,f15,l1,l3,l2.1.len tZ,hlen,d]
   exact hE
  have d:(((x.length:Nat):Int) != ((ll.length:Nat):Int))=false:=by simp[cl]
  simp -dsimp (disch:=omega) only[wpS,wpT,zE,f0,f13,f15,l1,l3,l2.1.len tZ,hlen,d]
  refine call (VE l2 (by omega)) ?_
  rintro _ h2 ⟨X2,rfl⟩
  have E2:=hE.trans X2
  by_cases cr:mB x
  ·rw[decide_eq_true cr]
   simp -dsimp (disch:=omega) only[wpS,wpT,zE,f15]
   refine⟨m - 1,by omega,i+1,by omega,E2,?_,by simp[f0,f13,f14]⟩
   intro j q hj hq
   by_cases hji:j=i
   ·subst hji;rw[hx] at hq;cases hq;exact⟨cl,cr⟩
   ·exact hok j q (by omega) hq
  ·rw[decide_eq_false cr,if_neg (fun hk=>cr (hk.2.2 x hxm).2)]
   simp -dsimp (disch:=omega) only[wpS,wpT,zE]
   exact E2
 ·rw[if_pos (show dK ll from⟨by omega,by omega,fun x hx=>by
   obtain⟨j,hj⟩:=List.getElem?_of_mem hx
   exact hok j x (by have:=(List.getElem?_eq_some_iff.1 hj).1;omega) hj⟩)]
  simp -dsimp (disch:=omega) only[wpS,wpT]
  exact hE
end Go.Id
namespace Go.Id
open Go
structure rZ (z:Nat) (h h':IH):Prop where
 n:h.n≤h'.n
 base:h'.base=h.base
 get : ∀k c f,k<h.n→h.ext.get k=some (.cells c z f) → ∃f',h'.ext.get k=some (.cells c z f')
theorem rZ.refl (z:Nat) (h:IH):rZ z h h:=⟨Nat.le_refl _,rfl,fun _ _ f _ hg=>⟨f,hg⟩⟩
variable {cs:List Value}{z k:Nat}
theorem rZ.put {a b:IH} (g:rZ z a b) {e:Nat} {f:Option Nat} (hk:b.ext.get k=some (.cells cs e f)) (he:e≠z) (o:bI):rZ z a (b.put k o):=⟨g.n,g.base,fun j c f1 hj hg=>by
 obtain⟨f2,h2⟩:=g.get j c f1 hj hg
 refine⟨f2,?_⟩
 rw[iT,if_neg]
 ·exact h2
 ·rintro rfl;rw[hk] at h2;cases h2;exact he rfl⟩
variable {v:Value}{h:IH}{n:Nat}{h':IH}
theorem bH.rE {sz:Nat} (s:bH h sz v n cs) (e:rZ sz h h'):bH h' sz v n cs:=by
 obtain⟨hz,hl,s|⟨b,o,k,rfl,s⟩⟩:=s
 ·exact⟨hz,hl,.inl s⟩
 ·refine⟨hz,hl,.inr ⟨b,o,k,rfl,s.imp id fun⟨a1,a2,row,a3,h1,h2,h3⟩=>?_⟩⟩
  rcases a3 with a3|⟨a4,a5,f,a6⟩
  ·refine⟨a1,a2,row,.inl a3,?_,h2,h3⟩
   rw[←h1];simp[IH.row,a3.1,e.base]
  ·obtain⟨f',h4⟩:=e.get (b / 2) row f (by omega) a6
   refine⟨a1,a2,row,.inr ⟨a4,by have:=e.n;omega,f',h4⟩,?_,h2,h3⟩
   simp only[IH.row,cond_eq_ite,beq_iff_eq]
   rw[if_neg (by omega)]
   simp only[h4]
structure rU (h:IH) (z k:Nat) (v:Value) (n:Nat) (cs:List Value):Prop where
 form:v=.slice (some ⟨2*k,0,none⟩) n (2*n+1)
 len:cs.length=n*z
 size:0<z
 some_:0<n
 old:k<h.n
 got:h.ext.get k=some (.cells cs z none)
theorem rU.sl (r:rU h z k v n cs):bH h z v n cs:=by
 obtain⟨rfl,l,hz,hn,hk,hg⟩:=r
 exact cI hg hk hz l (by omega) (by omega)
theorem rU.ext (r:rU h z k v n cs) (e:Ext h h'):rU h' z k v n cs :=
 ⟨r.form,r.len,r.size,r.some_,Nat.lt_of_lt_of_le r.old e.n,(e.get k r.old).trans r.got⟩
variable {xs:List Value}{i:Nat}
theorem Uo (h:i+xs.length≤cs.length):(IH.aJ cs i xs).length=cs.length:=by
 simp only[IH.aJ,List.length_append,List.length_take,List.length_drop];omega
variable {P:Program}{t:TypeId}
theorem rU.set (r:rU h z k v n cs) (hT:aO P t=some z) (hi:i<n) {x:Value} (hx:x.cells.toList=xs) (hxl:xs.length=z) (hc:xs.all aB=true) :
  store P h t (aP v (i*z)) x=some (h.put k (.cells (IH.aJ cs (i*z) xs) z none))∧rU (h.put k (.cells (IH.aJ cs (i*z) xs) z none)) z k v n (IH.aJ cs (i*z) xs):=by
 obtain⟨rfl,hl,hz,hn,hk,hg⟩:=r
 have hle:i*z+z≤cs.length:=by
  rw[hl,←Nat.succ_mul];exact Nat.mul_le_mul_right _ hi
 have k2:2*k / 2=k:=by omega
 have k1:(2*k % 2 == 1)=false:=by simp
 have hsx:x.cells.size=z:=by rw[←Array.length_toList,hx,hxl]
 have hst:store P h t (aP (.slice (some ⟨2*k,0,none⟩) n (2*n+1)) (i*z)) x=h.wr (2*k) (i*z) xs:=by
  simp only[aP,Nat.zero_add,store,asAddr,ptr,hT,hx,hsx,hc,beq_self_eq_true,Bool.and_self,cond_true]
 have hle2:Nat.ble (i*z+xs.length) cs.length=true:=by rw[Nat.ble_eq,hxl];exact hle
 refine⟨?_,rfl,by rw[Uo (by omega)];exact hl,hz,hn,hk,ae _ _ rfl⟩
 rw[hst]
 simp only[IH.wr,k1,k2,hg,hle2,cond_true,cond_false];rfl
theorem QE (hx:xs.length=z) (h:i*z+z≤cs.length):((IH.aJ cs (i*z) xs).drop (i*z)).take z=xs:=by
 simp only[IH.aJ]
 rw[List.drop_append,List.drop_of_length_le (by rw[List.length_take];omega),List.nil_append,List.length_take,Nat.min_eq_left (by omega),Nat.sub_self,List.drop_zero,List.take_append_of_le_length (by omega),List.take_of_length_le (by omega)]
variable {j:Nat}
theorem N7 (hx:xs.length=z) (h:i*z+z≤cs.length) (hj:j≠i):((IH.aJ cs (i*z) xs).drop (j*z)).take z=(cs.drop (j*z)).take z:=by
 rcases Nat.lt_or_gt_of_ne hj with hlt|hgt
 ·have e:j*z+z≤i*z:=by rw[←Nat.succ_mul];exact Nat.mul_le_mul_right _ hlt
  simp only[IH.aJ]
  apply List.ext_getElem?
  intro q
  rw[List.getElem?_take,List.getElem?_take]
  split
  ·rw[List.getElem?_drop,List.getElem?_drop,List.getElem?_append_left (by rw[List.length_take];omega),List.getElem?_take,if_pos (by omega)]
  ·rfl
 ·have e:i*z+z≤j*z:=by rw[←Nat.succ_mul];exact Nat.mul_le_mul_right _ hgt
  simp only[IH.aJ]
  apply List.ext_getElem?
  intro q
  rw[List.getElem?_take,List.getElem?_take]
  split
  ·rw[List.getElem?_drop,List.getElem?_drop,List.getElem?_append_right (by rw[List.length_take];omega),List.getElem?_append_right (by rw[List.length_take];omega),List.getElem?_drop,List.length_take,Nat.min_eq_left (by omega)]
   congr 1;omega
  ·rfl
def lG (R:IH→Value→Rat→Prop) (h:IH) (cs:List Value) (j:Nat) (q:Rat):Prop:=∃a s b t,(cs.drop (j*4)).take 4 = [a,s,b,t]∧R h (.agg #[a,s,b,t]) q
variable {R:IH→Value→Rat→Prop}{q:Rat}
theorem lG.mono (x:lG R h cs j q) (k : ∀v,R h v q→R h' v q):lG R h' cs j q:=let ⟨a,s,b,t,h1,h2⟩:=x;⟨a,s,b,t,h1,k _ h2⟩
variable {a b s:Value}
theorem lG.set {t:Value} (hi:i*4+4≤cs.length) (r:R h (.agg #[a,s,b,t]) q):lG R h (IH.aJ cs (i*4) [a,s,b,t]) i q:=⟨a,s,b,t,QE rfl hi,r⟩
theorem lG.other {t:Value} (x:lG R h cs j q) (hi:i*4+4≤cs.length) (hj:j≠i):lG R h (IH.aJ cs (i*4) [a,s,b,t]) j q:=by
 obtain⟨a',s',b',t',h1,h2⟩:=x
 exact⟨a',s',b',t',by rw[N7 (z:=4) rfl hi hj];exact h1,h2⟩
theorem F0 : ∀{l:List Rat} {cs:List Value},cs.length=l.length*4→(∀j q,l[j]?=some q→lG R h cs j q)→ku R h l cs
 | [],cs,hl,_=>List.length_eq_zero_iff.1 (by simpa using hl)
 | q :: l,cs,hl,H=>by
  obtain⟨a,s,b,t,h1,h2⟩:=H 0 q rfl
  rw[Nat.zero_mul,List.drop_zero] at h1
  refine⟨a,s,b,t,cs.drop 4,?_,h2,F0 (by rw[List.length_drop,hl,List.length_cons];omega) fun j p hj=>?_⟩
  ·have:=List.take_append_drop 4 cs
   rw[h1] at this
   exact this.symm
  ·obtain⟨a',s',b',t',h3,h4⟩:=H (j+1) p hj
   refine⟨a',s',b',t',?_,h4⟩
   rw[List.drop_drop,←h3]
   congr 2;omega
variable {l:List Rat}
theorem VZ (H:ku R h l cs) (hj:l[j]?=some q):lG R h cs j q:=H.at hj
theorem oz.nT (k:Kept R) (s:oz R h v l) (hi:l[i]?=some q) (hT:bh P t=some true) (hS:aO P t=some 4) :
  ∃a s b u,(∀h',aK h h'→load P h' t (aP v (i*4))=some (.agg #[a,s,b,u]))∧R h (.agg #[a,s,b,u]) q:=by
 obtain⟨cs,hs,hc,hl⟩:=s
 have hil:=(List.getElem?_eq_some_iff.1 hi).1
 have hcl:=hc.len
 obtain⟨a,s,b,u,e1,r⟩:=hc.at hi
 exact⟨a,s,b,u,fun h' e=>by rw[hs.C6 e (by omega) (by omega) hT hS,e1],r⟩
open Go.Proofs.Tryz (prog)
open Nat renaming reduceAdd→zA,reduceEqDiff→zE,reduceLeDiff→zL
set_option maxHeartbeats 16000000
def tX (a:Nat):Nat:=if a<H8 then a+H8 else a - H8
variable {a:Nat}
theorem Lx (ha:a<W8):tX a<W8:=by
 have:=eP;unfold tX;split<;>omega
theorem GB (ha:a<W8):((tX a:Nat):Int)=wdI a+H8:=by
 have:=eP;unfold tX wdI;split<;>omega
theorem GA (ha:a<W8) : ∃w:Nat,(∀ox oy,binop prog .xor 28 ox oy (K64 (wrd a 7)) (.int .u64 9223372036854775808)=some (K64 w))∧IH.aJ (wdC a) 7 [K64 w]=wdC (tX a):=by
 by_cases c:a<H8
 ·refine⟨wrd a 7+9223372036854775808,fun ox oy=>?_,?_⟩
  ·rw[←Le (DR c)];exact tQ _ _ ox oy _ 9223372036854775808 (wK a 7) (by decide)
  ·rw[tX,if_pos c];exact Ll c
 ·have h2:=eP
  obtain⟨b,hb⟩:=aT (a - H8)
  have hb8:b<H8:=by omega
  have ea:b+H8=a:=by omega
  have key:=Ll hb8
  rw[ea] at key
  have lt:=DR hb8
  have e7:wrd a 7=wrd b 7+9223372036854775808:=by
   have g:=dG a 7 (by omega)
   rw[←key,gS (by rw[aA];omega),List.getElem?_set_self (by rw[aA];omega)] at g
   injection g with g
   injection g with _ g
   omega
  refine⟨wrd b 7,fun ox oy=>?_,?_⟩
  ·have ex:(wrd b 7+9223372036854775808) ^^^ 9223372036854775808=wrd b 7:=by
    rw[←Le lt,Nat.xor_assoc,Nat.xor_self,Nat.xor_zero]
   have:=tQ prog 28 ox oy (wrd b 7+9223372036854775808) 9223372036854775808 (by omega) (by decide)
   rw[ex] at this
   rw[e7];exact this
  ·rw[←key,gS (n:=7) (cs:=wdC b) (by rw[aA];omega),gS (by rw[List.length_set,aA];omega),List.set_set,tX,if_neg c,←hb]
   apply List.ext_getElem?
   intro j
   by_cases hj:7=j
   ·subst hj
    rw[List.getElem?_set_self (by rw[aA];omega),dG b 7 (by omega)]
   ·rw[List.getElem?_set_ne hj]
variable {h:IH}
theorem Qj (a b:Nat) (ha:a<W8) (hb:b<W8):WV prog (.func (.func 129) #[] #[]) [wdV a,wdV b] h fun r h'=>Ext h h'∧r=KI (if wdI a<wdI b then -1 else if wdI a=wdI b then 0 else 1):=by
 have j7:qj 7 8=some 7:=rfl
 have ga:=dG a 7 (by omega)
 have gb:=dG b 7 (by omega)
 obtain⟨wa,xa,sa⟩:=GA ha
 obtain⟨wb,xb,sb⟩:=GA hb
 obtain⟨H0,hH0,n0,E0,k0,k1⟩:=ev h (wdC a) (wdC b)
 refine enter (nt:=16) (rs:=[.tmp 4]) Proofs.Tryz.func129 rfl rfl rfl (by simp) ?_
 simp -dsimp (disch:=omega) only[wpS,zE,zA,uG,cM]
 rw[←hH0]
 clear hH0
 simp -dsimp (disch:=omega) only[wpS,wpT,zE,zL,zA,uG,tj,wP,fh,aj k0,aj k1,k0,k1,uG,j7,ga,gb,xa,xb,aA,sa,sb,zG]
 refine call (u6 (tX a) (tX b) (Lx ha) (Lx hb)) ?_
 rintro _ h1 ⟨X1,rfl⟩
 have ta:=GB ha
 have tb:=GB hb
 have e:(if tX a<tX b then (-1:Int) else if tX a=tX b then 0 else 1)=if wdI a<wdI b then -1 else if wdI a=wdI b then 0 else 1:=by
  by_cases c1:wdI a<wdI b
  ·rw[if_pos c1,if_pos (by omega)]
  ·rw[if_neg c1,if_neg (by omega)]
   by_cases c2:wdI a=wdI b
   ·rw[if_pos c2,if_pos (by omega)]
   ·rw[if_neg c2,if_neg (by omega)]
 rw[e]
 have EE:Ext h ((H0.put h.n (.cells (wdC (tX a)) 0 none)).put (h.n+1) (.cells (wdC (tX b)) 0 none)):=(E0.put (Nat.le_refl _) _).put (by omega) _
 simp -dsimp (disch:=omega) only[wpS,wpT,zE]
 exact EE.trans X1
variable {n:Nat}
theorem MH {H:IH} {k:Nat} (g:H.ext.get k=some (.cells (wdC n) 0 none)):load prog H 30 (ptr (2*k) 0)=some (wdV n):=by
 have r:=aj g
 simp -dsimp (disch:=omega) only[wpS,zL,fh,r,aA,zG]
 rfl
theorem R4 {least:Int} {b:Nat} (hn:n<W8) (hl:fZ least) (hb:b<h.n) (g:h.ext.get b=some (.cells [KI least] 0 none)) :
  WV prog (.func (.func 246) #[] #[ptr (2*b) 0]) [wdV n] h fun r h'=>Ext h h'∧r=.bool (decide (wdI n<least)):=by
 obtain⟨H0,hH0⟩:=aT (h.new (.cells (wdC n) 0 none))
 have E0:Ext h H0:=by rw[hH0];exact(Ext.refl h).new _
 have n0:H0.n=h.n+1:=by rw[hH0];rfl
 have k0:H0.ext.get h.n=some (.cells (wdC n) 0 none):=by rw[hH0];simp (disch:=omega) only[ah]
 have k1:=E0.kept hb g
 refine enter (nt:=9) (rs:=[.tmp 3]) Proofs.Tryz.func246 rfl rfl rfl (by simp) ?_
 simp -dsimp (disch:=omega) only[wpS,zE,zA,cM]
 rw[←hH0]
 clear hH0
 have X0:=Ext.refl H0
 have L1:=MH k0
 have L2:=Ys k1
 refine drawn [(0,[3])] (by kernel_rfl) (by kernel_rfl) rfl ?_
 simp -dsimp (disch:=omega) only[wpS,zE,ld3,L1,aj k1]
 refine call (oB least hl) ?_
 rintro _ h1 ⟨X1,rfl⟩
 have m1:=X1.n
 simp -dsimp (disch:=omega) only[wpS,zE]
 refine call (Qj n (aY least) hn (ec (jL hl))) ?_
 rintro _ h2 ⟨X2,rfl⟩
 have X12:=X1.trans X2
 rw[cB (jL hl)]
 by_cases c:wdI n<least
 ·rw[if_pos c,decide_eq_true c]
  simp -dsimp (disch:=omega) only[wpS,wpT,zE]
  refine⟨by repeat' first|refine aw ?_ ?_|refine aC ?_ ?_|exact ad rfl rfl rfl rfl (aW (H0:=H0) rfl (by omega) (by assumption) (by assumption) (by with_reducible assumption)),?_⟩
  simp -dsimp (disch:=omega) only[wpS,wpT,zE,zA]
  exact E0.trans X12
 ·rw[if_neg c,decide_eq_false c]
  obtain⟨z,hz,hz0⟩ : ∃z:Int,(if wdI n=least then (0:Int) else 1)=z∧0≤z:=⟨_,rfl,by split<;>omega⟩
  rw[hz]
  simp -dsimp (disch:=omega) only[wpS,wpT,zE]
  refine⟨by repeat' first|refine aw ?_ ?_|refine aC ?_ ?_|exact ad rfl rfl rfl rfl (aW (H0:=H0) rfl (by omega) (by assumption) (by assumption) (by with_reducible assumption)),?_⟩
  simp -dsimp (disch:=omega) only[wpS,wpT,zE,zA]
  exact E0.trans X12
open Classical in
theorem qG {h:IH} {v F:Value} {l:List Nat} (hv:ni h v l) (B:Nat→Prop) (hF : ∀h1 p,Ext h h1→p∈l→WV prog F [wdV p] h1 fun r h2=>Ext h1 h2∧r=.bool (decide (B p))) :
  WV prog (.func (.func 95) #[] #[]) [v,F] h fun r h'=>Ext h h'∧r=.bool (decide (∃p∈l,B p)):=by
 have hlb:=hv.2.1
 have Sf:WV prog (.func (.func 191) #[] #[]) [v,F] h fun r h'=>Ext h h' ∧ ∃c:Int,r=KI c∧(0≤c ↔ ∃p∈l,B p):=by
  refine enter (nt:=19) (rs:=[.tmp 4]) Proofs.Tryz.func191 rfl rfl rfl (by simp) ?_
  simp -dsimp (disch:=omega) only[wpS,zE,zA,hv.1.len Em]
  refine loop (fun m fr h1 => ∃i:Nat,i+m=l.length∧Ext h h1∧(∀(j:Nat) p,j<i→l[j]?=some p → ¬B p)∧ab fr 0=some v∧ab fr 1=some F∧ab fr 7=some (KN l.length)∧ab fr 8=some (KN i)) l.length
   ⟨0,by omega,Ext.refl _,fun j p hj=>by omega,by simp⟩ ?_
  rintro m fr h1 ⟨i,him,hE,hno,f0,f1,f7,f8⟩
  simp -dsimp (disch:=omega) only[wpS,f7,f8]
  refine au ?_ ?_<;>intro hc<;>simp only[decide_eq_true_eq,decide_eq_false_iff_not] at hc
  ·have hi:i<l.length:=by omega
   obtain⟨p,hp⟩:=iC (l:=l) (i:=i) hi
   have hpm:=List.mem_of_getElem? hp
   simp -dsimp (disch:=omega) only[wpS,wpT,zE,f0,f1,f8,hv.1.idx Ps hi,hv.ld hE.aa hp]
   refine call (hF h1 p hE hpm) ?_
   rintro _ h2 ⟨hE2,rfl⟩
   have E2:=hE.trans hE2
   by_cases hk:B p
   ·rw[decide_eq_true hk]
    simp -dsimp (disch:=omega) only[wpS,zE]
    exact⟨E2,(i:Int),rfl,fun _=>⟨p,hpm,hk⟩,fun _=>by omega⟩
   ·rw[decide_eq_false hk]
    simp -dsimp (disch:=omega) only[wpS,zE,f8]
    refine⟨m - 1,by omega,i+1,by omega,E2,?_,by simp[f0,f1,f7]⟩
    intro j q hj hq
    by_cases hji:j=i
    ·subst hji;rw[hp] at hq;cases hq;exact hk
    ·exact hno j q (by omega) hq
  ·simp -dsimp (disch:=omega) only[wpS,wpT]
   refine⟨hE,-1,rfl,fun h=>by omega,fun⟨p,hp,hb⟩=>?_⟩
   obtain⟨j,hj⟩:=List.getElem?_of_mem hp
   have:=(List.getElem?_eq_some_iff.1 hj).1
   exact absurd hb (hno j p (by omega) hj)
 refine enter (nt:=9) (rs:=[.tmp 4]) Proofs.Tryz.func95 rfl rfl rfl (by simp) ?_
 simp -dsimp (disch:=omega) only[wpS,zE,zA]
 refine call Sf ?_
 rintro _ h1 ⟨hE,c,rfl,hc⟩
 simp -dsimp (disch:=omega) only[wpS,zE]
 exact⟨hE,by rw[decide_eq_decide.2 hc]⟩
open Classical in
theorem EZ {h:IH} {v:Value} {l:List Nat} {least:Int} (hv:ni h v l) (hl:fZ least) :
  WV prog (.func (.func 196) #[] #[]) [v,KI least] h fun r h'=>Ext h h'∧r=.bool (decide (∃p∈l,wdI p<least)):=by
 have E1:Ext h (h.new (.cells [KI least] 0 none)):=(Ext.refl h).new _
 refine enter (nt:=8) (rs:=[.tmp 4]) Proofs.Tryz.func196 rfl rfl rfl (by simp) ?_
 simp -dsimp (disch:=omega) only[wpS,zE,zA]
 refine call (qG (hv.aa E1.aa) (fun p=>wdI p<least) (fun h1 p hE hp=>(R4 (b:=h.n) (hv.2.2 p hp) hl (by have:=hE.n;simp only[aH] at this;omega) (hE.kept (by simp) (ah _ _ rfl))).mono fun r h2 ⟨a,b⟩=>⟨a,by rw[b];congr⟩)) ?_
 rintro _ h1 ⟨X1,rfl⟩
 simp -dsimp (disch:=omega) only[wpS,zE]
 exact⟨E1.trans X1,by congr⟩
def cK (n:Nat):Rat:=((wdI n:Int):Rat)
theorem R0 {h:IH} {v:Value} {l:List Nat} (hv:ni h v l) (hl:l.length≤1000):WV prog (.func (.func 197) #[] #[]) [v] h fun r h'=>Ext h h'∧oz bt h' r (l.map cK):=by
 refine enter (nt:=20) (rs:=[.tmp 2]) Proofs.Tryz.func197 rfl rfl rfl (by simp) ?_
 simp -dsimp (disch:=omega) only[wpS,zE,hv.1.len Em]
 refine loop (fun m fr h1 => ∃(i:Nat) (out:Value) (cs:List Value),i+m=l.length∧Ext h h1∧Acc h1 h.n 4 out ((l.take i).map cK).length cs∧ku bt h1 ((l.take i).map cK) cs∧ab fr 3=some out∧ab fr 6=some v∧ab fr 7=some (KN l.length)∧ab fr 8=some (KN i)) l.length
  ⟨0,.slice none 0 0,[],by omega,Ext.refl _,Acc.nil h _ (by omega),by simp[ku]⟩ ?_
 rintro m fr h1 ⟨i,out,cs,him,hE,hA,hC,f3,f6,f7,f8⟩
 simp -dsimp (disch:=omega) only[wpS,f7,f8]
 refine au ?_ ?_<;>intro hc<;>simp only[decide_eq_true_eq,decide_eq_false_iff_not] at hc
 ·have hi:i<l.length:=by omega
  obtain⟨p,hp⟩:=iC (l:=l) (i:=i) hi
  have wp:=hv.2.2 p (List.mem_of_getElem? hp)
  simp -dsimp (disch:=omega) only[wpS,wpT,zE,zL,zA,fh,nW,lh,f3,f6,f8,hv.1.idx Ps hi,hv.ld hE.aa hp,cM,aA,cm,eK,zG]
  have E1:Ext h1 ((h1.new (.cells [ZW,ZW,ZW,ZW,ZW,ZW,ZW,ZW] 0 none)).put h1.n (.cells (wdC p) 0 none)):=((Ext.refl h1).new _).put (Nat.le_refl _) _
  refine call (jt p wp) ?_
  rintro r1 h2 ⟨X2,p2⟩
  simp -dsimp (disch:=omega) only[wpS,zE]
  refine call (uM p2) ?_
  rintro r h3 ⟨X3,p3⟩
  obtain⟨a3,s3,b3,t3,rfl,_,_,_,o1,_,o2,o3,o4⟩:=p3.parts
  have X13:=(E1.trans X2).trans X3
  have n1:=hE.n
  have n2:=X13.n
  obtain⟨ef,h5,hap,hA5,hC5,hG5,hE5⟩:=Q6 Xp (by omega) hI (hA.ext X13) (hC.aa hI X13.aa) p3 (by simp[o1,o2,o3,o4]) (by simp;omega) (by omega) (hE.trans X13) (Nat.le_refl _)
  have eT:(l.take i).map cK ++ [((wdI p:Int):Rat)]=(l.take (i+1)).map cK:=by rw[eV hp,List.map_append];rfl
  rw[eT] at hA5 hC5
  simp -dsimp (disch:=omega) only[wpS,wpT,zE,zL,zA,Tt,DL,f8,hap]
  exact⟨m - 1,by omega,i+1,ef,_,by omega,hE5,hA5,hC5,by simp[f6,f7]⟩
 ·obtain rfl:i=l.length:=by omega
  rw[List.take_length] at hA hC
  simp -dsimp (disch:=omega) only[wpS,wpT,zE,f3]
  exact⟨hE,cs,hA.sl,hC,by simp;omega⟩
end Go.Id
