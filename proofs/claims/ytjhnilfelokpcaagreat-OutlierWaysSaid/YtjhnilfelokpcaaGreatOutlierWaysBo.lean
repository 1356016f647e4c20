/-
  The ideal machine with functions on numbers of any length that are not evaluated by their text. The functions on fractions and integers of any length, by value: what is reckoned here is what they give.
-/
import Derived.Test.YtjhnilfelokpcaaGreatOutlierWaysBn
import Derived.Test.YtjhnilfelokpcaaGreatOutlierWaysBl
import Derived.Test.YtjhnilfelokpcaaGreatOutlierWaysBe
import Derived.Test.YtjhnilfelokpcaaGreatOutlierWaysBd
set_option linter.unusedVariables false
set_option linter.unusedSimpArgs false
set_option linter.defProp false
set_option linter.deprecated false
namespace Go.Id
open Go
noncomputable section
def NV.real (h:IH):NV→Value→Prop
 | .val v,u=>u=v
 | .long n _ x,u=>PLong h u (sint n x)
 | .rat n _ x _ y,u=>PRat h u (qrat n x y)
def Reals (h:IH):List NV→List Value→Prop
 | [],[]=>True
 | a :: al,u :: us=>a.real h u∧Reals h al us
 | _,_=>False
theorem long_of {h:IH} {n:Bool} {x:Nat} {s:Value} (hn:n=true→x≠0) (w:Wrd h s x):PLong h (.agg #[.bool n,s]) (sint n x):=⟨s,by rw[sint_neg hn],by rw[sint_abs];exact w⟩
theorem qrat_parts {n:Bool} {x y:Nat} (hy:y≠0) (hg:Nat.gcd x y=1):(qrat n x y).num=sint n x∧(qrat n x y).den=y:=by
 unfold qrat
 have e:Nat.gcd (sint n x).natAbs y=1:=by rw[sint_abs];exact hg
 have:=Rat.divInt_ofNat (sint n x) y
 rw[show Rat.divInt (sint n x) (y:Int)=mkRat (sint n x) y from Rat.divInt_ofNat (sint n x) y]
 rw[←Rat.mk_eq_mkRat (sint n x) y hy e]
 exact⟨rfl,rfl⟩
theorem rat_of {h:IH} {n:Bool} {x y:Nat} {s t:Value} (hn:n=true→x≠0) (hy:y≠0) (hg:Nat.gcd x y=1) (w:Wrd h s x) (u:Wrd h t y):PRat h (.agg #[.bool n,s,.bool false,t]) (qrat n x y):=by
 obtain⟨e1,e2⟩:=qrat_parts (n:=n) hy hg
 refine⟨_,_,_,_,rfl,?_,?_⟩
 ·rw[e1];exact long_of hn w
 ·rw[e2];exact long_of (n:=false) (fun h=>by cases h) u
theorem reals_fill (hB:IH) : ∀(al:List NV) (us:List Value),us.length=(xsL al).length→(∀(i x:Nat) (u:Value),(xsL al)[i]?=some x→us[i]?=some u→NumSl hB u x)→(∀a∈al,a.good)→Reals hB al (fillA al us)
 | [],_,_,_,_=>trivial
 | .val v :: l,us,hl,h,hg=>⟨rfl,reals_fill hB l us hl h fun a ha=>hg a (List.mem_cons_of_mem _ ha)⟩
 | .long n b x :: l,us,hl,h,hg=>by
  have g:(n=true→x≠0)∧wlen x≤64:=hg _ List.mem_cons_self
  match us,hl,h with
  | [],hl,_=>simp[xsL,NV.xs] at hl
  | u :: us,hl,h =>
   exact⟨long_of g.1 (sl_wrd (h 0 x u rfl rfl) (Nat.le_trans g.2 (by decide))),reals_fill hB l us (by simpa [xsL,NV.xs] using hl) (fun i x' u' hx hu=>h (i+1) x' u' hx (by simpa using hu)) fun a ha=>hg a (List.mem_cons_of_mem _ ha)⟩
 | .rat n b x c y :: l,us,hl,h,hg=>by
  have g:((n=true→x≠0)∧(y≠0∧Nat.gcd x y=1))∧wlen x≤64∧wlen y≤64:=hg _ List.mem_cons_self
  match us,hl,h with
  | [],hl,_=>simp[xsL,NV.xs] at hl
  | [_],hl,_=>simp[xsL,NV.xs] at hl
  | u :: u2 :: us,hl,h =>
   exact⟨rat_of g.1.1 g.1.2.1 g.1.2.2 (sl_wrd (h 0 x u rfl rfl) (Nat.le_trans g.2.1 (by decide))) (sl_wrd (h 1 y u2 rfl rfl) (Nat.le_trans g.2.2 (by decide))),reals_fill hB l us (by simpa [xsL,NV.xs] using hl) (fun i x' u' hx hu=>h (i+2) x' u' hx (by simpa using hu)) fun a ha=>hg a (List.mem_cons_of_mem _ ha)⟩
inductive NR where
 | val (v:Value)
 | long (n:Bool) (x:Nat)
 | rat (n:Bool) (x y:Nat)
 | two (n:Bool) (x:Nat) (k:Bool) (y:Nat)
def NR.real (h:IH):NR→Value→Prop
 | .val v0,v=>v=v0
 | .long n x,v=>PLong h v (sint n x)
 | .rat n x y,v=>PRat h v (qrat n x y)
 | .two n x k y,v => ∃a b,v=.tuple #[a,b]∧PLong h a (sint n x)∧PLong h b (sint k y)
def NR.good:NR→Prop
 | .val v=>plainT v=true
 | .long n x=>n=true→x≠0
 | .rat n x y=>(n=true→x≠0)∧y≠0∧Nat.gcd x y=1
 | .two n x k y=>(n=true→x≠0)∧(k=true→y≠0)
def NR.nums:NR→List Nat
 | .val _ => []
 | .long _ x => [x]
 | .rat _ x y => [x,y]
 | .two _ x _ y => [x,y]
def tokK (b x:Nat):Value:=.slice (some ⟨b,0,some 0⟩) (wlenK x) 0
theorem tokK_eq (b x:Nat):tokK b x=tokV b x:=by unfold tokK tokV;rw[wlenK_eq]
def NR.value (n0:Nat):NR→Value
 | .val v=>v
 | .long n x=>.agg #[.bool n,tokK (2*n0) x]
 | .rat n x y=>.agg #[.bool n,tokK (2*n0) x,.bool false,tokK (2*(n0+1)) y]
 | .two n x k y=>.tuple #[.agg #[.bool n,tokK (2*n0) x],.agg #[.bool k,tokK (2*(n0+1)) y]]
def NR.fill:NR→List Value→Value
 | .val v,_=>v
 | .long n _,ss=>.agg #[.bool n,ss.headD undef]
 | .rat n _ _,ss=>.agg #[.bool n,ss.headD undef,.bool false,(ss.drop 1).headD undef]
 | .two n _ k _,ss=>.tuple #[.agg #[.bool n,ss.headD undef],.agg #[.bool k,(ss.drop 1).headD undef]]
theorem NR.fill_toks (r:NR) (n0:Nat):r.fill (toksOf (newBs n0 r.nums.length) r.nums)=r.value n0:=by
 cases r with
 | val v=>rfl
 | long n x=>show Value.agg #[.bool n,tokV (2*(n0+0)) x]=.agg #[.bool n,tokK (2*n0) x];rw[tokK_eq,Nat.add_zero]
 | rat n x y=>show Value.agg #[.bool n,tokV (2*(n0+0)) x,.bool false,tokV (2*(n0+1)) y]=.agg #[.bool n,tokK (2*n0) x,.bool false,tokK (2*(n0+1)) y];rw[tokK_eq,tokK_eq,Nat.add_zero]
 | two n x k y=>show Value.tuple #[.agg #[.bool n,tokV (2*(n0+0)) x],.agg #[.bool k,tokV (2*(n0+1)) y]]=.tuple #[.agg #[.bool n,tokK (2*n0) x],.agg #[.bool k,tokK (2*(n0+1)) y]];rw[tokK_eq,tokK_eq,Nat.add_zero]
theorem long_rel {m:Mp} {n:Bool} {s v':Value} (h:VRel m (.agg #[.bool n,s]) v') : ∃s',VRel m s s' ∧ ∀(m2:Mp) (u:Value),VRel m2 u s'→VRel m2 (.agg #[.bool n,u]) v':=by
 obtain⟨cs',rfl,h5⟩:=h.agg_inv
 obtain⟨b',r',e1,h6,h7⟩:=cons_rel h5
 obtain⟨s',r2,rfl,h8,h9⟩:=cons_rel h7
 obtain rfl:=nil_rel h9
 have hb:=h6.scal_eq rfl
 subst hb
 refine⟨s',h8,fun m2 u hu=>.agg_iff ?_⟩
 rw[e1]
 exact .cons (.scal rfl) (.cons hu (.nil m2))
theorem NR.para (r:NR) (hv : ∀v,r≠.val v):Para r.fill r.nums.length:=by
 intro m ss v' hl h
 cases r with
 | val v=>exact absurd rfl (hv v)
 | long n x =>
  match ss,hl with
  | [s],_ =>
   obtain⟨s',h1,h2⟩:=long_rel h
   refine⟨[s'],.cons h1 (.nil m),fun m2 us hu=>?_⟩
   match us,hu with
   | [u],hu=>exact h2 m2 u (hu.2 0 u s' rfl rfl)
   | [],hu=>have:=hu.1;simp at this
   | _ :: _ :: _,hu=>have:=hu.1;simp at this
  | [],hl=>simp[NR.nums] at hl
  | _ :: _ :: _,hl=>simp[NR.nums] at hl
 | rat n x y =>
  match ss,hl with
  | [s,t],_ =>
   obtain⟨ss',h1,h2⟩:=fillA_para [.rat n 0 1 0 1] (fun a ha=>by
    simp at ha;subst ha
    refine⟨⟨fun _=>by decide,by decide,by decide⟩,?_⟩
    have:wlen 1≤64:=by
     unfold wlen;rw[digs_step (by decide),show 1 / 18446744073709551616=0 from rfl,digs_zero];decide
    exact⟨this,this⟩) m [s,t] [v'] rfl (.cons h (.nil m))
   exact⟨ss',h1,fun m2 us hu=>by
    have h3:=h2 m2 us hu
    match us,hu with
    | [u,w],hu=>exact h3.2 0 _ _ rfl rfl
    | [],hu=>have a:=hu.1;have b:=h1.1;rw[←a] at b;simp at b
    | [_],hu=>have a:=hu.1;have b:=h1.1;rw[←a] at b;simp at b
    | _ :: _ :: _ :: _,hu=>have a:=hu.1;have b:=h1.1;rw[←a] at b;simp at b⟩
  | [],hl=>simp[NR.nums] at hl
  | [_],hl=>simp[NR.nums] at hl
  | _ :: _ :: _ :: _,hl=>simp[NR.nums] at hl
 | two n x k y =>
  match ss,hl with
  | [s,t],_ =>
   obtain⟨cs',rfl,h5⟩:=h.tuple_inv
   obtain⟨v1,r1,e1,h6,h7⟩:=cons_rel h5
   obtain⟨v2,r2,rfl,h8,h9⟩:=cons_rel h7
   obtain rfl:=nil_rel h9
   obtain⟨s',a1,a2⟩:=long_rel h6
   obtain⟨t',b1,b2⟩:=long_rel h8
   refine⟨[s',t'],.cons a1 (.cons b1 (.nil m)),fun m2 us hu=>?_⟩
   match us,hu with
   | [u,w],hu =>
    refine .tuple_iff ?_
    rw[e1]
    exact .cons (a2 m2 u (hu.2 0 u s' rfl rfl)) (.cons (b2 m2 w (hu.2 1 w t' rfl rfl)) (.nil m2))
   | [],hu=>have:=hu.1;simp at this
   | [_],hu=>have:=hu.1;simp at this
   | _ :: _ :: _ :: _,hu=>have:=hu.1;simp at this
  | [],hl=>simp[NR.nums] at hl
  | [_],hl=>simp[NR.nums] at hl
  | _ :: _ :: _ :: _,hl=>simp[NR.nums] at hl
theorem long_sl {h:IH} {v:Value} {n:Bool} {x:Nat} (hn:n=true→x≠0) (p:PLong h v (sint n x)) : ∃s,v=.agg #[.bool n,s]∧NumSl h s x:=by
 obtain⟨s,rfl,w⟩:=p
 rw[sint_abs] at w
 rw[sint_neg hn]
 exact⟨s,rfl,wrd_sl w⟩
theorem NR.real_fill {r:NR} (hv : ∀v,r≠.val v) (hg:r.good) {h:IH} {v:Value} (p:r.real h v) : ∃ss,ss.length=r.nums.length∧v=r.fill ss ∧ ∀(j y:Nat) (s:Value),r.nums[j]?=some y→ss[j]?=some s→NumSl h s y:=by
 cases r with
 | val v=>exact absurd rfl (hv v)
 | long n x =>
  obtain⟨s,rfl,w⟩:=long_sl hg p
  refine⟨[s],rfl,rfl,fun j y s' hy hs=>?_⟩
  match j with
  | 0=>cases hy;cases hs;exact w
  | j+1=>simp at hs
 | rat n x y =>
  obtain⟨a,s,b,t,rfl,p1,p2⟩:=p
  obtain⟨e1,e2⟩:=qrat_parts (n:=n) hg.2.1 hg.2.2
  rw[e1] at p1
  rw[e2] at p2
  obtain⟨s1,q1,w1⟩:=long_sl hg.1 p1
  obtain⟨s2,q2,w2⟩:=long_sl (n:=false) (x:=y) (fun h=>by cases h) p2
  cases q1
  cases q2
  refine⟨[s,t],rfl,rfl,fun j z s' hy hs=>?_⟩
  match j with
  | 0=>cases hy;cases hs;exact w1
  | 1=>cases hy;cases hs;exact w2
  | j+2=>simp at hs
 | two n x k y =>
  obtain⟨a,b,rfl,p1,p2⟩:=p
  obtain⟨s1,rfl,w1⟩:=long_sl hg.1 p1
  obtain⟨s2,rfl,w2⟩:=long_sl hg.2 p2
  refine⟨[s1,s2],rfl,rfl,fun j z s' hy hs=>?_⟩
  match j with
  | 0=>cases hy;cases hs;exact w1
  | 1=>cases hy;cases hs;exact w2
  | j+2=>simp at hs
structure NumFn (P:Program) (f:FuncId) (sem:List NV→Option NR):Prop where
 body : ∃fn,P.funcs[f]?=some fn∧fn.body.isSome=true
 right : ∀al r,(∀a∈al,a.good)→sem al=some r→r.good ∧ ∀h us,Reals h al us→WV P (.func (.func f) #[] #[]) us h fun v h'=>r.real h' v
def decodeL (h:IH):List NK→List Value→Option (List NV)
 | [],[]=>some []
 | k :: ks,v :: vs=>match decode h k v with
  | some a=>match decodeL h ks vs with
   | some al=>some (a :: al)
   | none=>none
  | none=>none
 | _,_=>none
theorem decodeL_some {h:IH} : ∀{ks:List NK} {vs:List Value} {al:List NV},decodeL h ks vs=some al→vs=al.map NV.value∧(∀a∈al,a.good) ∧ ∀a∈al,a.at_ h
 | [],[],al,e=>by cases e;exact⟨rfl,(fun a ha=>by cases ha),(fun a ha=>by cases ha)⟩
 | [],_ :: _,_,e=>by cases e
 | _ :: _,[],_,e=>by cases e
 | k :: ks,v :: vs,al,e=>by
  unfold decodeL at e
  split at e
  ·rename_i a ha
   split at e
   ·rename_i l hl
    cases e
    obtain⟨h1,h2,h3⟩:=decode_some ha
    obtain⟨h4,h5,h6⟩:=decodeL_some hl
    refine⟨by rw[h1,h4];rfl,fun b hb=>?_,fun b hb=>?_⟩
    ·rcases List.mem_cons.1 hb with rfl|hb
     ·exact h2
     ·exact h5 b hb
    ·rcases List.mem_cons.1 hb with rfl|hb
     ·exact h3
     ·exact h6 b hb
   ·cases e
  ·cases e
theorem toks_at {h:IH} : ∀(al:List NV),(∀a∈al,a.at_ h)→Toks h (bsL al) (xsL al)
 | [],_=>⟨rfl,fun i b x hb=>by simp[bsL] at hb⟩
 | a :: l,hg=>by
  obtain⟨h1,h2⟩:=toks_at l fun b hb=>hg b (List.mem_cons_of_mem _ hb)
  have ha:=hg a List.mem_cons_self
  cases a with
  | val v=>exact⟨h1,h2⟩
  | long n b x =>
   refine⟨by show(bsL l).length+1=(xsL l).length+1;rw[h1],fun i c y hc hy=>?_⟩
   match i with
   | 0=>cases hc;cases hy;exact ha
   | i+1=>exact h2 i c y hc hy
  | rat n b x c y =>
   refine⟨by show(bsL l).length+1+1=(xsL l).length+1+1;rw[h1],fun i d z hd hz=>?_⟩
   match i with
   | 0=>cases hd;cases hz;exact ha.1
   | 1=>cases hd;cases hz;exact ha.2
   | i+2=>exact h2 i d z hd hz
def numsF {α:Type} (l:List Nat) (h:IH) (k:IH→α):α:=List.rec (motive:=fun _=>IH→α) k (fun y _ ih h=>newF h (.num y) fun _ h'=>ih h') l h
theorem numsF_eq {α:Type} : ∀(l:List Nat) (h:IH) (k:IH→α),numsF l h k=k (addNums h l)
 | [],_,_=>rfl
 | y :: l,h,k=>by
  show newF h (.num y) (fun _ h'=>numsF l h' k)=_
  rw[newF_eq,numsF_eq l];rfl
def outF (r:NR) (h:IH):Option (Value×IH):=match r with
 | .val v=>some (v,h)
 | .long n x=>fN (Nat.mul 2 h.n) fun a=>fN (wlenK x) fun i=>numsF [x] h fun h'=>some (.agg ⟨[.bool n,.slice (some ⟨a,0,some 0⟩) i 0]⟩,h')
 | .rat n x y=>fN (Nat.mul 2 h.n) fun a=>fN (Nat.mul 2 (Nat.succ h.n)) fun b=>fN (wlenK x) fun i=>fN (wlenK y) fun j=>numsF [x,y] h fun h'=>some (.agg ⟨[.bool n,.slice (some ⟨a,0,some 0⟩) i 0,.bool false,.slice (some ⟨b,0,some 0⟩) j 0]⟩,h')
 | .two n x k y=>fN (Nat.mul 2 h.n) fun a=>fN (Nat.mul 2 (Nat.succ h.n)) fun b=>fN (wlenK x) fun i=>fN (wlenK y) fun j=>numsF [x,y] h fun h'=>some (.tuple ⟨[.agg ⟨[.bool n,.slice (some ⟨a,0,some 0⟩) i 0]⟩,.agg ⟨[.bool k,.slice (some ⟨b,0,some 0⟩) j 0]⟩]⟩,h')
theorem outF_eq (r:NR) (h:IH):outF r h=some (r.value h.n,addNums h r.nums):=by
 unfold outF
 cases r<;>simp only[fN_eq,numsF_eq]<;>rfl
def nint (ks:List NK) (sem:List NV→Option NR) (args:List Value) (h:IH):Option (Value×IH):=match decodeL h ks args with
 | some al=>match sem al with
  | some r=>outF r h
  | none=>none
 | none=>none
theorem nint_calls {P:Program} (S:Sound (E0 P)) {f:FuncId} {ks:List NK} {sem:List NV→Option NR} (F:NumFn P f sem) {args:List Value} {h h':IH} {v:Value} (e:nint ks sem args h=some (v,h'))
  {B:Nat} {w0:World} {m:Mp} {w:World} {args':Array Value} (R:Rel B w0 m h w) (ha:LRel m args args'.toList) (fr:Fresh m h.n h'.n):CallsTo P f args' B w0 m h w v h':=by
 unfold nint at e
 split at e
 case h_2=>cases e
 rename_i al has
 split at e
 case h_2=>cases e
 rename_i r hr
 rw[outF_eq] at e
 cases e
 obtain⟨e1,e2,e3⟩:=decodeL_some has
 obtain⟨g,W⟩:=F.right al r e2 hr
 have T:=toks_at al e3
 rw[e1,←fillA_toks] at ha
 have hw : ∀us,us.length=(xsL al).length→(∀(i:Nat) (u:Value),us[i]?=some u→NumAt (xsL al) i u)→WV P (.func (.func f) #[] #[]) (fillA al us) (IH.start (numBase (xsL al))) fun v h'=>r.real h' v :=
  fun us hl hu=>W _ _ (reals_fill _ al us hl (fun i x u hx h2=>numAt_sl (hu i u h2) hx) e2)
 by_cases c : ∃v,r=.val v
 ·obtain⟨v,rfl⟩:=c
  exact num_plain S R T (fillA_para al e2) ha F.body g hw
 ·have nv : ∀v,r≠.val v:=fun v e=>c ⟨v,e⟩
  have:=num_nums S R T (fillA_para al e2) ha F.body (r.para nv) (fun us hl hu=>(hw us hl hu).mono fun v h' p=>NR.real_fill nv g p) (by rw[addNums_n] at fr;exact fr)
  rw[NR.fill_toks] at this
  exact this
def E2 (P:Program) (tb:FuncId→Option (List Value→Option Value)) (tn:FuncId→Option (List Value→IH→Option (Value×IH))):Env:=⟨P,fun _ _=>none,fun f=>match tn f with
 | some g=>some g
 | none=>(E1 P tb).intr f⟩
theorem sound2 {P:Program} {tb:FuncId→Option (List Value→Option Value)} {tn:FuncId→Option (List Value→IH→Option (Value×IH))} (S0:Sound (E0 P)) (S:Sound (E1 P tb)) (hn : ∀f g,tn f=some g → ∃ks sem,g=nint ks sem∧NumFn P f sem):Sound (E2 P tb tn) where
 mixed:=S.mixed
 names:=S.names
 origin:=S.origin
 intrN:=fun f g hg args h v h' e=>by
  have hg:(match tn f with|some g=>some g|none=>(E1 P tb).intr f)=some g:=hg
  split at hg
  ·rename_i g' hg'
   cases hg
   obtain⟨ks,sem,rfl,F⟩:=hn f _ hg'
   unfold nint at e
   split at e
   case h_2=>cases e
   split at e
   case h_2=>cases e
   rw[outF_eq] at e
   cases e
   rw[addNums_n];omega
  ·exact S.intrN f g hg args h v h' e
 intr:=fun f g hg=>by
  have hg:(match tn f with|some g=>some g|none=>(E1 P tb).intr f)=some g:=hg
  split at hg
  ·rename_i g' hg'
   cases hg
   obtain⟨ks,sem,rfl,F⟩:=hn f _ hg'
   exact⟨F.body,fun args h v h' e B w0 m w args' R ha fr=>nint_calls S0 F e R ha fr⟩
  ·exact S.intr f g hg
end
end Go.Id

namespace Go.Id
open Go
noncomputable section
def iN {α:Type} (a:Int) (k:Bool→Nat→α):α:=Int.rec (motive:=fun _=>α) (fun n=>fN n (k false)) (fun n=>fN (Nat.succ n) (k true)) a
theorem iN_eq {α:Type} (a:Int) (k:Bool→Nat→α):iN a k=k (decide (a<0)) a.natAbs:=by
 cases a with
 | ofNat n =>
  show fN n (k false)=k (decide ((n:Int)<0)) n
  rw[fN_eq,decide_eq_false (by omega)]
 | negSucc n =>
  show fN (n+1) (k true)=k (decide (Int.negSucc n<0)) (n+1)
  rw[fN_eq,decide_eq_true (by omega)]
def sI (n:Bool) (x:Nat):Int:=iB n (Int.neg (Int.ofNat x)) (Int.ofNat x)
theorem sI_eq (n:Bool) (x:Nat):sI n x=sint n x:=by cases n<;>rfl
def longR (a:Int):NR:=iN a NR.long
def ratR (a:Int) (d:Nat):NR:=iN a fun s x=>fN (Nat.gcd x d) fun g=>fN (Nat.div x g) fun x=>fN (Nat.div d g) fun y=>.rat s x y
def twoR (a b:Int):NR:=iN a fun s x=>iN b fun k y=>.two s x k y
theorem sint_self (a:Int):sint (decide (a<0)) a.natAbs=a:=by
 unfold sint
 by_cases h:a<0
 ·rw[if_pos (decide_eq_true h)];omega
 ·rw[if_neg (by simpa using h)];omega
theorem sint_mul (s:Bool) (x g:Nat):sint s (x*g)=sint s x*g:=by
 unfold sint
 split
 ·rw[Int.natCast_mul,Int.neg_mul]
 ·rw[Int.natCast_mul]
theorem longR_eq (a:Int):longR a=.long (decide (a<0)) a.natAbs:=by unfold longR;rw[iN_eq]
theorem twoR_eq (a b:Int):twoR a b=.two (decide (a<0)) a.natAbs (decide (b<0)) b.natAbs:=by unfold twoR;rw[iN_eq,iN_eq]
theorem neg_abs {a:Int} (h:decide (a<0)=true):a.natAbs≠0:=by have:=of_decide_eq_true h;omega
theorem longR_good (a:Int):(longR a).good:=by rw[longR_eq];exact neg_abs
theorem longR_real {a:Int} {h:IH} {v:Value} (p:PLong h v a):(longR a).real h v:=by
 rw[longR_eq]
 show PLong h v (sint _ _)
 rw[sint_self];exact p
theorem twoR_good (a b:Int):(twoR a b).good:=by rw[twoR_eq];exact⟨neg_abs,neg_abs⟩
theorem twoR_real {a b:Int} {h:IH} {v:Value} (p : ∃q t,v=.tuple #[q,t]∧PLong h q a∧PLong h t b):(twoR a b).real h v:=by
 rw[twoR_eq]
 show ∃q t,v=.tuple #[q,t]∧PLong h q (sint _ _)∧PLong h t (sint _ _)
 rw[sint_self,sint_self];exact p
theorem ratR_eq (a:Int) {d:Nat} (hd:0<d) : ∃x y,ratR a d=.rat (decide (a<0)) x y∧sint (decide (a<0)) x=(Rat.divInt a d).num∧y=(Rat.divInt a d).den∧(a<0→x≠0):=by
 have g0:0<Nat.gcd a.natAbs d:=Nat.gcd_pos_of_pos_right _ hd
 have k1:a.natAbs / Nat.gcd a.natAbs d*Nat.gcd a.natAbs d=a.natAbs:=Nat.div_mul_cancel (Nat.gcd_dvd_left _ _)
 have k2:d / Nat.gcd a.natAbs d*Nat.gcd a.natAbs d=d:=Nat.div_mul_cancel (Nat.gcd_dvd_right _ _)
 obtain⟨l1,l2⟩:=low_pos (n:=a) (d:=d) (by omega)
 have eg:Int.gcd a d=Nat.gcd a.natAbs d:=by unfold Int.gcd;rw[Int.natAbs_natCast]
 rw[eg] at l1 l2
 refine⟨a.natAbs / Nat.gcd a.natAbs d,d / Nat.gcd a.natAbs d,?_,?_,?_,fun h e=>?_⟩
 ·unfold ratR
  rw[iN_eq,fN_eq,fN_eq,fN_eq];rfl
 ·rw[←l1]
  have:a=sint (decide (a<0)) (a.natAbs / Nat.gcd a.natAbs d)*(Nat.gcd a.natAbs d:Nat):=by rw[←sint_mul,k1,sint_self]
  exact(Int.ediv_eq_of_eq_mul_left (by omega) this).symm
 ·rw[←Int.natCast_ediv] at l2
  exact Int.ofNat.inj l2
 ·rw[e] at k1;omega
theorem ratR_good (a:Int) {d:Nat} (hd:0<d):(ratR a d).good:=by
 obtain⟨x,y,e,e1,e2,e3⟩:=ratR_eq a hd
 rw[e]
 refine⟨fun h=>e3 (of_decide_eq_true h),?_,?_⟩
 ·rw[e2];exact Rat.den_nz _
 ·have r:=(Rat.divInt a d).reduced
  rw[←e1,←e2,sint_abs] at r
  exact r
theorem ratR_real {a:Int} {d:Nat} (hd:0<d) {h:IH} {v:Value} (p:PRat h v (Rat.divInt a d)):(ratR a d).real h v:=by
 obtain⟨x,y,e,e1,e2,e3⟩:=ratR_eq a hd
 rw[e]
 show PRat h v (qrat _ _ _)
 unfold qrat
 rw[e1,e2,Rat.num_divInt_den];exact p
theorem qrat_one (n:Bool) (x:Nat):qrat n x 1=(sint n x:Rat):=Rat.num_divInt_den ((sint n x:Int):Rat)
theorem bits_lek {x k:Nat} (h:wlen x≤64) (hk:64*64≤k):x≤2 ^ k:=by
 have a:=wlen_lt x
 have p:(18446744073709551616:Nat) ^ wlen x=2 ^ (64*wlen x):=by rw[Nat.pow_mul]
 rw[p] at a
 exact Nat.le_trans (Nat.le_of_lt a) (Nat.pow_le_pow_right (by omega) (by omega))
theorem bits_le {x:Nat} (h:wlen x≤64):x≤2 ^ 4096:=bits_lek (k:=4096) h (Nat.le_refl _)
theorem rat_num {n:Bool} {b x c y:Nat} (g:(NV.rat n b x c y).good):(qrat n x y).num=sint n x∧(qrat n x y).den=y:=qrat_parts g.1.2.1 g.1.2.2
theorem rat_qb {n:Bool} {b x c y:Nat} (g:(NV.rat n b x c y).good):QB 4096 (qrat n x y):=by
 obtain⟨e1,e2⟩:=rat_num g
 exact⟨by rw[e1,sint_abs];exact bits_le g.2.1,by rw[e2];exact bits_le g.2.2⟩
theorem long_half {n:Bool} {b x:Nat} (g:(NV.long n b x).good):HalfI (sint n x):=half_bits (k:=4096) (by rw[sint_abs];exact bits_le g.2) (by omega)
theorem long_small {n:Bool} {b x:Nat} (g:(NV.long n b x).good):SmallI (sint n x):=(long_half g).small
theorem reals1 {h:IH} {a:NV} {us:List Value} (R:Reals h [a] us) : ∃v,us = [v]∧a.real h v:=by
 match us,R with
 | [],R=>exact R.elim
 | [v],R=>exact⟨v,rfl,R.1⟩
 | _ :: _ :: _,R=>exact R.2.elim
theorem reals2 {h:IH} {a b:NV} {us:List Value} (R:Reals h [a,b] us) : ∃v w,us = [v,w]∧a.real h v∧b.real h w:=by
 match us,R with
 | [],R=>exact R.elim
 | [_],R=>exact R.2.elim
 | [v,w],R=>exact⟨v,w,rfl,R.1,R.2.1⟩
 | _ :: _ :: _ :: _,R=>exact R.2.2.elim
def onV (k:Value→Option NR) (l:List NV):Option NR:=match l with
 | [.val v]=>k v
 | _=>none
def onL (k:Bool→Nat→Option NR) (l:List NV):Option NR:=match l with
 | [.long n _ x]=>k n x
 | _=>none
def onQ (k:Bool→Nat→Nat→Option NR) (l:List NV):Option NR:=match l with
 | [.rat n _ x _ y]=>k n x y
 | _=>none
def onLL (k:Bool→Nat→Bool→Nat→Option NR) (l:List NV):Option NR:=match l with
 | [.long n _ x,.long m _ y]=>k n x m y
 | _=>none
def onQQ (k:Bool→Nat→Nat→Bool→Nat→Nat→Option NR) (l:List NV):Option NR:=match l with
 | [.rat n _ x _ y,.rat m _ u _ w]=>k n x y m u w
 | _=>none
theorem num_v {P:Program} {f:FuncId} {k:Value→Option NR} (hb : ∃fn,P.funcs[f]?=some fn∧fn.body.isSome=true)
  (w : ∀v r,k v=some r→r.good ∧ ∀h,WV P (.func (.func f) #[] #[]) [v] h fun u h'=>r.real h' u):NumFn P f (onV k) where
 body:=hb
 right:=fun al r hg e=>by
  unfold onV at e
  split at e
  case h_2=>cases e
  obtain⟨h1,h2⟩:=w _ _ e
  refine⟨h1,fun h us R=>?_⟩
  obtain⟨v,rfl,rfl⟩:=reals1 R
  exact h2 h
theorem num_l {P:Program} {f:FuncId} {k:Bool→Nat→Option NR} (hb : ∃fn,P.funcs[f]?=some fn∧fn.body.isSome=true)
  (w : ∀n b x r,(NV.long n b x).good→k n x=some r→r.good ∧ ∀h v,PLong h v (sint n x)→WV P (.func (.func f) #[] #[]) [v] h fun u h'=>r.real h' u):NumFn P f (onL k) where
 body:=hb
 right:=fun al r hg e=>by
  unfold onL at e
  split at e
  case h_2=>cases e
  obtain⟨h1,h2⟩:=w _ _ _ _ (hg _ List.mem_cons_self) e
  refine⟨h1,fun h us R=>?_⟩
  obtain⟨v,rfl,p⟩:=reals1 R
  exact h2 h v p
theorem num_q {P:Program} {f:FuncId} {k:Bool→Nat→Nat→Option NR} (hb : ∃fn,P.funcs[f]?=some fn∧fn.body.isSome=true)
  (w : ∀n b x c y r,(NV.rat n b x c y).good→k n x y=some r→r.good ∧ ∀h v,PRat h v (qrat n x y)→WV P (.func (.func f) #[] #[]) [v] h fun u h'=>r.real h' u):NumFn P f (onQ k) where
 body:=hb
 right:=fun al r hg e=>by
  unfold onQ at e
  split at e
  case h_2=>cases e
  obtain⟨h1,h2⟩:=w _ _ _ _ _ _ (hg _ List.mem_cons_self) e
  refine⟨h1,fun h us R=>?_⟩
  obtain⟨v,rfl,p⟩:=reals1 R
  exact h2 h v p
theorem num_ll {P:Program} {f:FuncId} {k:Bool→Nat→Bool→Nat→Option NR} (hb : ∃fn,P.funcs[f]?=some fn∧fn.body.isSome=true)
  (w : ∀n b x m c y r,(NV.long n b x).good→(NV.long m c y).good→k n x m y=some r→r.good ∧ ∀h v v2,PLong h v (sint n x)→PLong h v2 (sint m y)→WV P (.func (.func f) #[] #[]) [v,v2] h fun u h'=>r.real h' u):NumFn P f (onLL k) where
 body:=hb
 right:=fun al r hg e=>by
  unfold onLL at e
  split at e
  case h_2=>cases e
  obtain⟨h1,h2⟩:=w _ _ _ _ _ _ _ (hg _ List.mem_cons_self) (hg _ (List.mem_cons_of_mem _ List.mem_cons_self)) e
  refine⟨h1,fun h us R=>?_⟩
  obtain⟨v,v2,rfl,p,q⟩:=reals2 R
  exact h2 h v v2 p q
theorem num_qq {P:Program} {f:FuncId} {k:Bool→Nat→Nat→Bool→Nat→Nat→Option NR} (hb : ∃fn,P.funcs[f]?=some fn∧fn.body.isSome=true)
  (w : ∀n b x c y m d u e z r,(NV.rat n b x c y).good→(NV.rat m d u e z).good→k n x y m u z=some r→r.good ∧ ∀h v v2,PRat h v (qrat n x y)→PRat h v2 (qrat m u z)→WV P (.func (.func f) #[] #[]) [v,v2] h fun u h'=>r.real h' u):NumFn P f (onQQ k) where
 body:=hb
 right:=fun al r hg e=>by
  unfold onQQ at e
  split at e
  case h_2=>cases e
  obtain⟨h1,h2⟩:=w _ _ _ _ _ _ _ _ _ _ _ (hg _ List.mem_cons_self) (hg _ (List.mem_cons_of_mem _ List.mem_cons_self)) e
  refine⟨h1,fun h us R=>?_⟩
  obtain⟨v,v2,rfl,p,q⟩:=reals2 R
  exact h2 h v v2 p q
def sgnV (z:Int):NR:=Int.rec (motive:=fun _=>NR) (fun n=>Nat.rec (motive:=fun _=>NR) (.val (.int .i64 (Int.ofNat 0))) (fun _ _=>.val (.int .i64 (Int.ofNat 1))) n) (fun _=>.val (.int .i64 (Int.negSucc 0))) z
theorem sgnV_eq (x y:Int):sgnV (Int.sub x y)=.val (KI (if x<y then -1 else if x=y then 0 else 1)):=by
 unfold sgnV
 have e:Int.sub x y=x - y:=rfl
 rw[e]
 cases h:x - y with
 | ofNat n =>
  have h:x - y=(n:Int):=h
  cases n with
  | zero=>rw[if_neg (by omega),if_pos (by omega)];rfl
  | succ m=>rw[if_neg (by omega),if_neg (by omega)];rfl
 | negSucc n=>rw[if_pos (by omega)];rfl
theorem sgnV_zero (x:Int):sgnV x=.val (KI (if x<0 then -1 else if x=0 then 0 else 1)):=by
 rw[←sgnV_eq x 0]
 congr 1
 exact(Int.sub_zero x).symm
def pairK (n d:Int):Option Value:=some (.tuple #[.int .i64 n,.int .i64 d])
def onPair (k:Int→Int→Option NR) (v:Value):Option NR:=match v with
 | .tuple cs=>match cs.toList with
  | [.int _ n,.int _ d]=>k n d
  | _=>none
 | _=>none
def onInt (k:Int→Option NR) (v:Value):Option NR:=match v with
 | .int .i64 n=>k n
 | _=>none
def readS:List NV→Option NR:=onV fun v=>bO (shareF v pairK) (onPair fun n d=>iB (okF n d) (iN d fun _ y=>some (ratR n y)) none)
def rfromS:List NV→Option NR:=onV (onInt fun n=>iB (in64F n) (some (ratR n 1)) none)
def wholeS:List NV→Option NR:=onL fun n x=>some (.rat n x 1)
def rtoldS:List NV→Option NR:=onQ fun n x y=>some (.val (toldF (sI n x) (Int.ofNat y)))
def rturnS:List NV→Option NR:=onQ fun n x y=>some (.rat (iB n false (Nat.ble 1 x)) x y)
def rplusS:List NV→Option NR:=onQQ fun n x y m u z=>some (ratR (Int.add (Int.mul (sI n x) (Int.ofNat z)) (Int.mul (sI m u) (Int.ofNat y))) (Nat.mul y z))
def rminusS:List NV→Option NR:=onQQ fun n x y m u z=>some (ratR (Int.sub (Int.mul (sI n x) (Int.ofNat z)) (Int.mul (sI m u) (Int.ofNat y))) (Nat.mul y z))
def rtimesS:List NV→Option NR:=onQQ fun n x y m u z=>some (ratR (Int.mul (sI n x) (sI m u)) (Nat.mul y z))
def roverS:List NV→Option NR:=onQQ fun n x y m u z=>iB (Nat.beq u 0) none (some (ratR (Int.mul (sI n x) (sI m z)) (Nat.mul y u)))
def rcmpS:List NV→Option NR:=onQQ fun n x y m u z=>some (sgnV (Int.sub (Int.mul (sI n x) (Int.ofNat z)) (Int.mul (sI m u) (Int.ofNat y))))
def wlongerS:List NV→Option NR:=onV fun v=>bO (wideF v fun n=>some (.int .i64 n)) (onInt fun n=>some (longR n))
def wfromS:List NV→Option NR:=onV (onInt fun n=>iB (in64F n) (some (longR n)) none)
def wtoldS:List NV→Option NR:=onL fun n x=>iB (inF (sI n x)) (some (.val (.tuple #[.agg ⟨wordsL 8 (wordF (sI n x)) []⟩,.int .i64 0]))) (some (.val (.tuple #[.agg ⟨wordsL 8 0 []⟩,.int .i64 6])))
def wturnS:List NV→Option NR:=onL fun n x=>some (.long (iB n false (Nat.ble 1 x)) x)
def wsideS:List NV→Option NR:=onL fun n x=>some (sgnV (sI n x))
def wplusS:List NV→Option NR:=onLL fun n x m y=>some (longR (Int.add (sI n x) (sI m y)))
def wminusS:List NV→Option NR:=onLL fun n x m y=>some (longR (Int.sub (sI n x) (sI m y)))
def wtimesS:List NV→Option NR:=onLL fun n x m y=>some (longR (Int.mul (sI n x) (sI m y)))
def wcmpS:List NV→Option NR:=onLL fun n x m y=>some (sgnV (Int.sub (sI n x) (sI m y)))
def wcommonS:List NV→Option NR:=onLL fun _ x _ y=>some (.long false (Nat.gcd x y))
def wpartsS:List NV→Option NR:=onLL fun n x m y=>iB (Nat.beq y 0) none (some (twoR (Int.ediv (sI n x) (sI m y)) (Int.emod (sI n x) (sI m y))))
end
end Go.Id

namespace Go.Id
open Go
abbrev Num (f:FuncId) (sem:List NV→Option NR):Prop:=NumFn Proofs.Tryz.prog f sem
theorem divInt_num {n m:Bool} {b x c y d u e z:Nat} (g:(NV.rat n b x c y).good) (k:(NV.rat m d u e z).good) :
  (qrat n x y).num=sI n x∧((qrat n x y).den:Int)=y∧(qrat m u z).num=sI m u∧((qrat m u z).den:Int)=z∧0<y*z:=by
 rw[(rat_num g).1,(rat_num g).2,(rat_num k).1,(rat_num k).2,sI_eq,sI_eq]
 exact⟨rfl,rfl,rfl,rfl,Nat.mul_pos (Nat.pos_of_ne_zero g.1.2.1) (Nat.pos_of_ne_zero k.1.2.1)⟩
theorem num_rplus:Num 117 rplusS:=num_qq ⟨_,Proofs.Tryz.func117,rfl⟩ fun n b x c y m d u e z r g k h0=>by
 cases h0
 obtain⟨e1,e2,e3,e4,p⟩:=divInt_num g k
 refine⟨ratR_good _ p,fun h v v2 hv hw=>(rplus_ok hv hw (rat_qb g) (rat_qb k) (by omega)).mono fun r h' q=>ratR_real p ?_⟩
 have:=q.2
 rw[rat_add,e1,e2,e3,e4] at this
 rw[Int.natCast_mul];exact this
theorem num_rminus:Num 160 rminusS:=num_qq ⟨_,Proofs.Tryz.func160,rfl⟩ fun n b x c y m d u e z r g k h0=>by
 cases h0
 obtain⟨e1,e2,e3,e4,p⟩:=divInt_num g k
 refine⟨ratR_good _ p,fun h v v2 hv hw=>(rminus_ok hv hw (rat_qb g) (rat_qb k) (by omega)).mono fun r h' q=>ratR_real p ?_⟩
 have:=q.2
 rw[rat_sub',e1,e2,e3,e4] at this
 rw[Int.natCast_mul];exact this
theorem num_rtimes:Num 118 rtimesS:=num_qq ⟨_,Proofs.Tryz.func118,rfl⟩ fun n b x c y m d u e z r g k h0=>by
 cases h0
 obtain⟨e1,e2,e3,e4,p⟩:=divInt_num g k
 refine⟨ratR_good _ p,fun h v v2 hv hw=>(rtimes_ok hv hw (rat_qb g) (rat_qb k) (by omega)).mono fun r h' q=>ratR_real p ?_⟩
 have:=q.2
 rw[rat_mul,e1,e2,e3,e4] at this
 rw[Int.natCast_mul];exact this
theorem sint_swap (n m:Bool) (x y z u:Nat):Rat.divInt (sint n x*z) ((y:Int)*sint m u)=Rat.divInt (sint n x*sint m z) ((y:Int)*u):=by
 cases m
 ·rfl
 ·show Rat.divInt (sint n x*z) ((y:Int) * -(u:Int))=Rat.divInt (sint n x * -(z:Int)) _
  rw[Int.mul_neg,Rat.divInt_neg',Int.mul_neg]
theorem num_rover:Num 152 roverS:=num_qq ⟨_,Proofs.Tryz.func152,rfl⟩ fun n b x c y m d u e z r g k h0=>by
 obtain⟨h1,h0⟩:=iB_some' h0
 cases h0
 obtain⟨e1,e2,e3,e4,_⟩:=divInt_num g k
 have u0:u≠0:=fun h=>by rw[h] at h1;cases h1
 have p:0<y*u:=Nat.mul_pos (Nat.pos_of_ne_zero g.1.2.1) (Nat.pos_of_ne_zero u0)
 have q0:qrat m u z≠0:=fun h=>by
  rw[h,sI_eq] at e3
  have:(sint m u).natAbs=0:=by rw[←e3];rfl
  rw[sint_abs] at this
  exact u0 this
 refine⟨ratR_good _ p,fun h v v2 hv hw=>(rover_ok hv hw (rat_qb g) (rat_qb k) (by omega) q0).mono fun r h' q=>ratR_real p ?_⟩
 have:=q.2
 rw[rat_div,e1,e2,e3,e4,sI_eq,sI_eq,sint_swap,←sI_eq,←sI_eq] at this
 rw[Int.natCast_mul];exact this
theorem num_rcmp:Num 107 rcmpS:=num_qq ⟨_,Proofs.Tryz.func107,rfl⟩ fun n b x c y m d u e z r g k h0=>by
 cases h0
 obtain⟨e1,e2,e3,e4,p⟩:=divInt_num g k
 rw[sgnV_eq]
 refine⟨rfl,fun h v v2 hv hw=>(rcmp_ok hv hw (rat_qb g) (rat_qb k) (by omega)).mono fun r h' q=>q.2.trans ?_⟩
 rw[←cmp_rat,e1,e2,e3,e4];rfl
theorem num_rturn:Num 216 rturnS:=num_q ⟨_,Proofs.Tryz.func216,rfl⟩ fun n b x c y r g h0=>by
 cases h0
 refine⟨⟨?_,g.1.2⟩,fun h v hv=>(rturned_ok hv).mono fun r h' q=>?_⟩
 ·cases n
  ·intro h1 h2
   rw[h2] at h1;cases h1
  ·intro h1;cases h1
 ·have : -qrat n x y=qrat (iB n false (Nat.ble 1 x)) x y:=by
   unfold qrat
   rw[Rat.neg_divInt]
   congr 1
   cases n
   ·cases x with
    | zero=>rfl
    | succ x=>rfl
   ·exact Int.neg_neg _
  show PRat h' r (qrat _ x y)
  rw[←this];exact q.2
theorem num_rtold:Num 105 rtoldS:=num_q ⟨_,Proofs.Tryz.func105,rfl⟩ fun n b x c y r g h0=>by
 cases h0
 have y0:=g.1.2.1
 have e:toldF (sI n x) (Int.ofNat y)=toldV (qrat n x y):=by
  rw[toldF_eq (by show(0:Int)<(y:Int);omega),sI_eq];rfl
 rw[e]
 exact⟨plain_toldV _,fun h v hv=>(rtold_ok hv).mono fun r h' q=>q.2⟩
theorem num_whole:Num 153 wholeS:=num_l ⟨_,Proofs.Tryz.func153,rfl⟩ fun n b x r g h0=>by
 cases h0
 exact⟨⟨g.1,by omega,Nat.gcd_one_right x⟩,fun h v hv=>(whole_ok hv).mono fun r h' q=>by
  show PRat h' r (qrat n x 1)
  rw[qrat_one];exact q.2⟩
theorem onInt_some {k:Int→Option NR} {v:Value} {r:NR} (h:onInt k v=some r) : ∃n,v=KI n∧k n=some r:=by
 unfold onInt at h
 split at h
 case h_2=>cases h
 exact⟨_,rfl,h⟩
theorem num_rfrom:Num 116 rfromS:=num_v ⟨_,Proofs.Tryz.func116,rfl⟩ fun v r h0=>by
 obtain⟨n,rfl,h0⟩:=onInt_some h0
 obtain⟨h1,h0⟩:=iB_some h0
 cases h0
 refine⟨ratR_good _ (by omega),fun h=>(rfrom_ok n (in64F_eq h1)).mono fun r h' q=>ratR_real (by omega) ?_⟩
 rw[show Rat.divInt n ((1:Nat):Int)=(n:Rat) from Rat.num_divInt_den (n:Rat)]
 exact q.2
theorem num_read:Num 114 readS:=num_v ⟨_,Proofs.Tryz.func114,rfl⟩ fun v r h0=>by
 cases hs:shareF v pairK with
 | none=>rw[hs] at h0;cases h0
 | some w =>
  rw[hs,bO_some] at h0
  obtain⟨p,hp,rfl,h1⟩:=shareF_some hs
  cases h1
  change iB (okF (wdI p.1) (wdI p.2)) (iN (wdI p.2) fun _ y=>some (ratR (wdI p.1) y)) none=some r at h0
  obtain⟨h1,h0⟩:=iB_some h0
  have ok:=okF_ok h1
  rw[iN_eq] at h0
  cases h0
  have d0:=ok.1
  have e:((wdI p.2).natAbs:Int)=wdI p.2:=by omega
  refine⟨ratR_good _ (by omega),fun h=>(shread_ok p.1 p.2 hp.1 hp.2).mono fun r h' q=>ratR_real (by omega) ?_⟩
  rw[e]
  show PPair h' r (rOf p).num ((rOf p).den:Int)
  rw[(rOf_parts ok).1,(rOf_parts ok).2]
  exact q.2
theorem num_wplus:Num 201 wplusS:=num_ll ⟨_,Proofs.Tryz.func201,rfl⟩ fun n b x m c y r g k h0=>by
 cases h0
 refine⟨longR_good _,fun h v v2 hv hw=>(pplus_ok hv hw (long_small g) (long_small k)).mono fun r h' q=>longR_real ?_⟩
 rw[sI_eq,sI_eq];exact q.2
theorem num_wminus:Num 243 wminusS:=num_ll ⟨_,Proofs.Tryz.func243,rfl⟩ fun n b x m c y r g k h0=>by
 cases h0
 refine⟨longR_good _,fun h v v2 hv hw=>(pminus_ok hv hw (long_small g) (long_small k)).mono fun r h' q=>longR_real ?_⟩
 rw[sI_eq,sI_eq];exact q.2
theorem num_wtimes:Num 67 wtimesS:=num_ll ⟨_,Proofs.Tryz.func67,rfl⟩ fun n b x m c y r g k h0=>by
 cases h0
 refine⟨longR_good _,fun h v v2 hv hw=>(ptimes_ok hv hw (long_half g) (long_half k)).mono fun r h' q=>longR_real ?_⟩
 rw[sI_eq,sI_eq];exact q.2
theorem num_wcmp:Num 196 wcmpS:=num_ll ⟨_,Proofs.Tryz.func196,rfl⟩ fun n b x m c y r g k h0=>by
 cases h0
 rw[sgnV_eq,sI_eq,sI_eq]
 exact⟨rfl,fun h v v2 hv hw=>(pcmp_ok hv hw (long_small g) (long_small k)).mono fun r h' q=>q.2⟩
theorem num_wcommon:Num 199 wcommonS:=num_ll ⟨_,Proofs.Tryz.func199,rfl⟩ fun n b x m c y r g k h0=>by
 cases h0
 refine⟨(fun h=>by cases h),fun h v v2 hv hw=>(pcommon_ok hv hw (long_small g) (long_small k)).mono fun r h' q=>?_⟩
 have:=q.2
 unfold Int.gcd at this
 rw[sint_abs,sint_abs] at this
 exact this
theorem num_wparts:Num 218 wpartsS:=num_ll ⟨_,Proofs.Tryz.func218,rfl⟩ fun n b x m c y r g k h0=>by
 obtain⟨h1,h0⟩:=iB_some' h0
 cases h0
 have y0:sint m y≠0:=fun h=>by
  have e:(sint m y).natAbs=0:=by rw[h];rfl
  rw[sint_abs] at e
  rw[e] at h1;cases h1
 refine⟨twoR_good _ _,fun h v v2 hv hw=>(pparts_ok hv hw (long_small g) (long_small k) y0).mono fun r h' q=>twoR_real ?_⟩
 rw[sI_eq,sI_eq];exact q.2
theorem num_wturn:Num 246 wturnS:=num_l ⟨_,Proofs.Tryz.func246,rfl⟩ fun n b x r g h0=>by
 cases h0
 refine⟨?_,fun h v hv=>(pturned_ok hv).mono fun r h' q=>?_⟩
 ·cases n
  ·intro h1 h2
   rw[h2] at h1;cases h1
  ·intro h1;cases h1
 ·have : -sint n x=sint (iB n false (Nat.ble 1 x)) x:=by
   cases n
   ·cases x with
    | zero=>rfl
    | succ x=>rfl
   ·exact Int.neg_neg _
  show PLong h' r (sint _ x)
  rw[←this];exact q.2
theorem num_wside:Num 115 wsideS:=num_l ⟨_,Proofs.Tryz.func115,rfl⟩ fun n b x r g h0=>by
 cases h0
 rw[sgnV_zero,sI_eq]
 exact⟨rfl,fun h v hv=>(pside_ok hv).mono fun r h' q=>q.2⟩
theorem num_wfrom:Num 64 wfromS:=num_v ⟨_,Proofs.Tryz.func64,rfl⟩ fun v r h0=>by
 obtain⟨n,rfl,h0⟩:=onInt_some h0
 obtain⟨h1,h0⟩:=iB_some h0
 cases h0
 exact⟨longR_good _,fun h=>(pfrom_ok n (in64F_eq h1)).mono fun r h' q=>longR_real q.2⟩
theorem num_wlonger:Num 66 wlongerS:=num_v ⟨_,Proofs.Tryz.func66,rfl⟩ fun v r h0=>by
 cases hs:wideF v (fun n=>some (.int .i64 n)) with
 | none=>rw[hs] at h0;cases h0
 | some w =>
  rw[hs,bO_some] at h0
  obtain⟨n,hn,rfl,h1⟩:=wideF_some hs
  cases h1
  cases h0
  exact⟨longR_good _,fun h=>(longer_ok n hn).mono fun r h' q=>longR_real q.2⟩
theorem num_wtold:Num 68 wtoldS:=num_l ⟨_,Proofs.Tryz.func68,rfl⟩ fun n b x r g h0=>by
 have pl : ∀z,plain (wdV z)=true:=fun z=>by
  show(wdC z).toArray.all scal=true
  rw[wdC,List.all_toArray,List.all_map]
  simp[scal]
 have ew : ∀z,Value.agg ⟨wordsL 8 z []⟩=wdV z:=fun z=>by
  unfold wdV wdC
  rw[wordsL_eq,List.append_nil]
 have key : ∀z e,(NR.val (.tuple #[.agg ⟨wordsL 8 z []⟩,KI e])).good:=fun z e=>by
  rw[ew]
  show [wdV z,KI e].all plain=true
  rw[List.all_cons,pl];rfl
 change iB (inF (sI n x)) _ _=some r at h0
 rw[iB_eq,inF_eq,sI_eq] at h0
 by_cases c:InW (sint n x)
 ·rw[decide_eq_true c] at h0
  cases h0
  refine⟨key _ _,fun h v hv=>(ptold_ok hv).mono fun r h' q=>q.2.trans ?_⟩
  rw[if_pos c,ew,wordF_eq c]
 ·rw[decide_eq_false c] at h0
  cases h0
  refine⟨key _ _,fun h v hv=>(ptold_ok hv).mono fun r h' q=>q.2.trans ?_⟩
  rw[if_neg c,ew]
end Go.Id
