/-
  The ideal machine with functions on numbers of any length that are not evaluated by their text. Lists of fractions: their cells, sums, sizes.
-/
import Derived.Test.YtepckjjfhhncoaaGreatTemperKnownBc
import Derived.Test.YtepckjjfhhncoaaGreatTemperKnownAu
import Derived.Test.YtepckjjfhhncoaaGreatTemperKnownBb
set_option linter.unusedVariables false
set_option linter.unusedSimpArgs false
set_option linter.defProp false
set_option linter.deprecated false
namespace Go.Id
open Go
noncomputable section
def NV.real (h:IH):NV→Value→Prop
 | .val v,u=>u=v
 | .long n _ x,u=>PLong h u (sint n x)
 | .rat n _ x _ y,u=>PRat h u (qrat n x y)
def Reals (h:IH):List NV→List Value→Prop
 | [],[]=>True
 | a :: al,u :: us=>a.real h u∧Reals h al us
 | _,_=>False
theorem long_of {h:IH} {n:Bool} {x:Nat} {s:Value} (hn:n=true→x≠0) (w:Wrd h s x):PLong h (.agg #[.bool n,s]) (sint n x):=⟨s,by rw[sint_neg hn],by rw[sint_abs];exact w⟩
theorem qrat_parts {n:Bool} {x y:Nat} (hy:y≠0) (hg:Nat.gcd x y=1):(qrat n x y).num=sint n x∧(qrat n x y).den=y:=by
 unfold qrat
 have e:Nat.gcd (sint n x).natAbs y=1:=by rw[sint_abs];exact hg
 have:=Rat.divInt_ofNat (sint n x) y
 rw[show Rat.divInt (sint n x) (y:Int)=mkRat (sint n x) y from Rat.divInt_ofNat (sint n x) y]
 rw[←Rat.mk_eq_mkRat (sint n x) y hy e]
 exact⟨rfl,rfl⟩
theorem rat_of {h:IH} {n:Bool} {x y:Nat} {s t:Value} (hn:n=true→x≠0) (hy:y≠0) (hg:Nat.gcd x y=1) (w:Wrd h s x) (u:Wrd h t y):PRat h (.agg #[.bool n,s,.bool false,t]) (qrat n x y):=by
 obtain⟨e1,e2⟩:=qrat_parts (n:=n) hy hg
 refine⟨_,_,_,_,rfl,?_,?_⟩
 ·rw[e1];exact long_of hn w
 ·rw[e2];exact long_of (n:=false) (fun h=>by cases h) u
theorem reals_fill (hB:IH) : ∀(al:List NV) (us:List Value),us.length=(xsL al).length→(∀(i x:Nat) (u:Value),(xsL al)[i]?=some x→us[i]?=some u→NumSl hB u x)→(∀a∈al,a.good)→Reals hB al (fillA al us)
 | [],_,_,_,_=>trivial
 | .val v :: l,us,hl,h,hg=>⟨rfl,reals_fill hB l us hl h fun a ha=>hg a (List.mem_cons_of_mem _ ha)⟩
 | .long n b x :: l,us,hl,h,hg=>by
  have g:(n=true→x≠0)∧wlen x≤64:=hg _ List.mem_cons_self
  match us,hl,h with
  | [],hl,_=>simp[xsL,NV.xs] at hl
  | u :: us,hl,h =>
   exact⟨long_of g.1 (sl_wrd (h 0 x u rfl rfl) (Nat.le_trans g.2 (by decide))),reals_fill hB l us (by simpa [xsL,NV.xs] using hl) (fun i x' u' hx hu=>h (i+1) x' u' hx (by simpa using hu)) fun a ha=>hg a (List.mem_cons_of_mem _ ha)⟩
 | .rat n b x c y :: l,us,hl,h,hg=>by
  have g:((n=true→x≠0)∧(y≠0∧Nat.gcd x y=1))∧wlen x≤64∧wlen y≤64:=hg _ List.mem_cons_self
  match us,hl,h with
  | [],hl,_=>simp[xsL,NV.xs] at hl
  | [_],hl,_=>simp[xsL,NV.xs] at hl
  | u :: u2 :: us,hl,h =>
   exact⟨rat_of g.1.1 g.1.2.1 g.1.2.2 (sl_wrd (h 0 x u rfl rfl) (Nat.le_trans g.2.1 (by decide))) (sl_wrd (h 1 y u2 rfl rfl) (Nat.le_trans g.2.2 (by decide))),reals_fill hB l us (by simpa [xsL,NV.xs] using hl) (fun i x' u' hx hu=>h (i+2) x' u' hx (by simpa using hu)) fun a ha=>hg a (List.mem_cons_of_mem _ ha)⟩
inductive NR where
 | val (v:Value)
 | long (n:Bool) (x:Nat)
 | rat (n:Bool) (x y:Nat)
 | two (n:Bool) (x:Nat) (k:Bool) (y:Nat)
def NR.real (h:IH):NR→Value→Prop
 | .val v0,v=>v=v0
 | .long n x,v=>PLong h v (sint n x)
 | .rat n x y,v=>PRat h v (qrat n x y)
 | .two n x k y,v => ∃a b,v=.tuple #[a,b]∧PLong h a (sint n x)∧PLong h b (sint k y)
def NR.good:NR→Prop
 | .val v=>plainT v=true
 | .long n x=>n=true→x≠0
 | .rat n x y=>(n=true→x≠0)∧y≠0∧Nat.gcd x y=1
 | .two n x k y=>(n=true→x≠0)∧(k=true→y≠0)
def NR.nums:NR→List Nat
 | .val _ => []
 | .long _ x => [x]
 | .rat _ x y => [x,y]
 | .two _ x _ y => [x,y]
def tokK (b x:Nat):Value:=.slice (some ⟨b,0,some 0⟩) (wlenK x) 0
theorem tokK_eq (b x:Nat):tokK b x=tokV b x:=by unfold tokK tokV;rw[wlenK_eq]
def NR.value (n0:Nat):NR→Value
 | .val v=>v
 | .long n x=>.agg #[.bool n,tokK (2*n0) x]
 | .rat n x y=>.agg #[.bool n,tokK (2*n0) x,.bool false,tokK (2*(n0+1)) y]
 | .two n x k y=>.tuple #[.agg #[.bool n,tokK (2*n0) x],.agg #[.bool k,tokK (2*(n0+1)) y]]
def NR.fill:NR→List Value→Value
 | .val v,_=>v
 | .long n _,ss=>.agg #[.bool n,ss.headD undef]
 | .rat n _ _,ss=>.agg #[.bool n,ss.headD undef,.bool false,(ss.drop 1).headD undef]
 | .two n _ k _,ss=>.tuple #[.agg #[.bool n,ss.headD undef],.agg #[.bool k,(ss.drop 1).headD undef]]
theorem NR.fill_toks (r:NR) (n0:Nat):r.fill (toksOf (newBs n0 r.nums.length) r.nums)=r.value n0:=by
 cases r with
 | val v=>rfl
 | long n x=>show Value.agg #[.bool n,tokV (2*(n0+0)) x]=.agg #[.bool n,tokK (2*n0) x];rw[tokK_eq,Nat.add_zero]
 | rat n x y=>show Value.agg #[.bool n,tokV (2*(n0+0)) x,.bool false,tokV (2*(n0+1)) y]=.agg #[.bool n,tokK (2*n0) x,.bool false,tokK (2*(n0+1)) y];rw[tokK_eq,tokK_eq,Nat.add_zero]
 | two n x k y=>show Value.tuple #[.agg #[.bool n,tokV (2*(n0+0)) x],.agg #[.bool k,tokV (2*(n0+1)) y]]=.tuple #[.agg #[.bool n,tokK (2*n0) x],.agg #[.bool k,tokK (2*(n0+1)) y]];rw[tokK_eq,tokK_eq,Nat.add_zero]
theorem long_rel {m:Mp} {n:Bool} {s v':Value} (h:VRel m (.agg #[.bool n,s]) v') : ∃s',VRel m s s' ∧ ∀(m2:Mp) (u:Value),VRel m2 u s'→VRel m2 (.agg #[.bool n,u]) v':=by
 obtain⟨cs',rfl,h5⟩:=h.agg_inv
 obtain⟨b',r',e1,h6,h7⟩:=cons_rel h5
 obtain⟨s',r2,rfl,h8,h9⟩:=cons_rel h7
 obtain rfl:=nil_rel h9
 have hb:=h6.scal_eq rfl
 subst hb
 refine⟨s',h8,fun m2 u hu=>.agg_iff ?_⟩
 rw[e1]
 exact .cons (.scal rfl) (.cons hu (.nil m2))
theorem NR.para (r:NR) (hv : ∀v,r≠.val v):Para r.fill r.nums.length:=by
 intro m ss v' hl h
 cases r with
 | val v=>exact absurd rfl (hv v)
 | long n x =>
  match ss,hl with
  | [s],_ =>
   obtain⟨s',h1,h2⟩:=long_rel h
   refine⟨[s'],.cons h1 (.nil m),fun m2 us hu=>?_⟩
   match us,hu with
   | [u],hu=>exact h2 m2 u (hu.2 0 u s' rfl rfl)
   | [],hu=>have:=hu.1;simp at this
   | _ :: _ :: _,hu=>have:=hu.1;simp at this
  | [],hl=>simp[NR.nums] at hl
  | _ :: _ :: _,hl=>simp[NR.nums] at hl
 | rat n x y =>
  match ss,hl with
  | [s,t],_ =>
   obtain⟨ss',h1,h2⟩:=fillA_para [.rat n 0 1 0 1] (fun a ha=>by
    simp at ha;subst ha
    refine⟨⟨fun _=>by decide,by decide,by decide⟩,?_⟩
    have:wlen 1≤64:=by
     unfold wlen;rw[digs_step (by decide),show 1 / 18446744073709551616=0 from rfl,digs_zero];decide
    exact⟨this,this⟩) m [s,t] [v'] rfl (.cons h (.nil m))
   exact⟨ss',h1,fun m2 us hu=>by
    have h3:=h2 m2 us hu
    match us,hu with
    | [u,w],hu=>exact h3.2 0 _ _ rfl rfl
    | [],hu=>have a:=hu.1;have b:=h1.1;rw[←a] at b;simp at b
    | [_],hu=>have a:=hu.1;have b:=h1.1;rw[←a] at b;simp at b
    | _ :: _ :: _ :: _,hu=>have a:=hu.1;have b:=h1.1;rw[←a] at b;simp at b⟩
  | [],hl=>simp[NR.nums] at hl
  | [_],hl=>simp[NR.nums] at hl
  | _ :: _ :: _ :: _,hl=>simp[NR.nums] at hl
 | two n x k y =>
  match ss,hl with
  | [s,t],_ =>
   obtain⟨cs',rfl,h5⟩:=h.tuple_inv
   obtain⟨v1,r1,e1,h6,h7⟩:=cons_rel h5
   obtain⟨v2,r2,rfl,h8,h9⟩:=cons_rel h7
   obtain rfl:=nil_rel h9
   obtain⟨s',a1,a2⟩:=long_rel h6
   obtain⟨t',b1,b2⟩:=long_rel h8
   refine⟨[s',t'],.cons a1 (.cons b1 (.nil m)),fun m2 us hu=>?_⟩
   match us,hu with
   | [u,w],hu =>
    refine .tuple_iff ?_
    rw[e1]
    exact .cons (a2 m2 u (hu.2 0 u s' rfl rfl)) (.cons (b2 m2 w (hu.2 1 w t' rfl rfl)) (.nil m2))
   | [],hu=>have:=hu.1;simp at this
   | [_],hu=>have:=hu.1;simp at this
   | _ :: _ :: _ :: _,hu=>have:=hu.1;simp at this
  | [],hl=>simp[NR.nums] at hl
  | [_],hl=>simp[NR.nums] at hl
  | _ :: _ :: _ :: _,hl=>simp[NR.nums] at hl
theorem long_sl {h:IH} {v:Value} {n:Bool} {x:Nat} (hn:n=true→x≠0) (p:PLong h v (sint n x)) : ∃s,v=.agg #[.bool n,s]∧NumSl h s x:=by
 obtain⟨s,rfl,w⟩:=p
 rw[sint_abs] at w
 rw[sint_neg hn]
 exact⟨s,rfl,wrd_sl w⟩
theorem NR.real_fill {r:NR} (hv : ∀v,r≠.val v) (hg:r.good) {h:IH} {v:Value} (p:r.real h v) : ∃ss,ss.length=r.nums.length∧v=r.fill ss ∧ ∀(j y:Nat) (s:Value),r.nums[j]?=some y→ss[j]?=some s→NumSl h s y:=by
 cases r with
 | val v=>exact absurd rfl (hv v)
 | long n x =>
  obtain⟨s,rfl,w⟩:=long_sl hg p
  refine⟨[s],rfl,rfl,fun j y s' hy hs=>?_⟩
  match j with
  | 0=>cases hy;cases hs;exact w
  | j+1=>simp at hs
 | rat n x y =>
  obtain⟨a,s,b,t,rfl,p1,p2⟩:=p
  obtain⟨e1,e2⟩:=qrat_parts (n:=n) hg.2.1 hg.2.2
  rw[e1] at p1
  rw[e2] at p2
  obtain⟨s1,q1,w1⟩:=long_sl hg.1 p1
  obtain⟨s2,q2,w2⟩:=long_sl (n:=false) (x:=y) (fun h=>by cases h) p2
  cases q1
  cases q2
  refine⟨[s,t],rfl,rfl,fun j z s' hy hs=>?_⟩
  match j with
  | 0=>cases hy;cases hs;exact w1
  | 1=>cases hy;cases hs;exact w2
  | j+2=>simp at hs
 | two n x k y =>
  obtain⟨a,b,rfl,p1,p2⟩:=p
  obtain⟨s1,rfl,w1⟩:=long_sl hg.1 p1
  obtain⟨s2,rfl,w2⟩:=long_sl hg.2 p2
  refine⟨[s1,s2],rfl,rfl,fun j z s' hy hs=>?_⟩
  match j with
  | 0=>cases hy;cases hs;exact w1
  | 1=>cases hy;cases hs;exact w2
  | j+2=>simp at hs
structure NumFn (P:Program) (f:FuncId) (sem:List NV→Option NR):Prop where
 body : ∃fn,P.funcs[f]?=some fn∧fn.body.isSome=true
 right : ∀al r,(∀a∈al,a.good)→sem al=some r→r.good ∧ ∀h us,Reals h al us→WV P (.func (.func f) #[] #[]) us h fun v h'=>r.real h' v
def decodeL (h:IH):List NK→List Value→Option (List NV)
 | [],[]=>some []
 | k :: ks,v :: vs=>match decode h k v with
  | some a=>match decodeL h ks vs with
   | some al=>some (a :: al)
   | none=>none
  | none=>none
 | _,_=>none
theorem decodeL_some {h:IH} : ∀{ks:List NK} {vs:List Value} {al:List NV},decodeL h ks vs=some al→vs=al.map NV.value∧(∀a∈al,a.good) ∧ ∀a∈al,a.at_ h
 | [],[],al,e=>by cases e;exact⟨rfl,(fun a ha=>by cases ha),(fun a ha=>by cases ha)⟩
 | [],_ :: _,_,e=>by cases e
 | _ :: _,[],_,e=>by cases e
 | k :: ks,v :: vs,al,e=>by
  unfold decodeL at e
  split at e
  ·rename_i a ha
   split at e
   ·rename_i l hl
    cases e
    obtain⟨h1,h2,h3⟩:=decode_some ha
    obtain⟨h4,h5,h6⟩:=decodeL_some hl
    refine⟨by rw[h1,h4];rfl,fun b hb=>?_,fun b hb=>?_⟩
    ·rcases List.mem_cons.1 hb with rfl|hb
     ·exact h2
     ·exact h5 b hb
    ·rcases List.mem_cons.1 hb with rfl|hb
     ·exact h3
     ·exact h6 b hb
   ·cases e
  ·cases e
theorem toks_at {h:IH} : ∀(al:List NV),(∀a∈al,a.at_ h)→Toks h (bsL al) (xsL al)
 | [],_=>⟨rfl,fun i b x hb=>by simp[bsL] at hb⟩
 | a :: l,hg=>by
  obtain⟨h1,h2⟩:=toks_at l fun b hb=>hg b (List.mem_cons_of_mem _ hb)
  have ha:=hg a List.mem_cons_self
  cases a with
  | val v=>exact⟨h1,h2⟩
  | long n b x =>
   refine⟨by show(bsL l).length+1=(xsL l).length+1;rw[h1],fun i c y hc hy=>?_⟩
   match i with
   | 0=>cases hc;cases hy;exact ha
   | i+1=>exact h2 i c y hc hy
  | rat n b x c y =>
   refine⟨by show(bsL l).length+1+1=(xsL l).length+1+1;rw[h1],fun i d z hd hz=>?_⟩
   match i with
   | 0=>cases hd;cases hz;exact ha.1
   | 1=>cases hd;cases hz;exact ha.2
   | i+2=>exact h2 i d z hd hz
def numsF {α:Type} (l:List Nat) (h:IH) (k:IH→α):α:=List.rec (motive:=fun _=>IH→α) k (fun y _ ih h=>newF h (.num y) fun _ h'=>ih h') l h
theorem numsF_eq {α:Type} : ∀(l:List Nat) (h:IH) (k:IH→α),numsF l h k=k (addNums h l)
 | [],_,_=>rfl
 | y :: l,h,k=>by
  show newF h (.num y) (fun _ h'=>numsF l h' k)=_
  rw[newF_eq,numsF_eq l];rfl
def outF (r:NR) (h:IH):Option (Value×IH):=match r with
 | .val v=>some (v,h)
 | .long n x=>fN (Nat.mul 2 h.n) fun a=>fN (wlenK x) fun i=>numsF [x] h fun h'=>some (.agg ⟨[.bool n,.slice (some ⟨a,0,some 0⟩) i 0]⟩,h')
 | .rat n x y=>fN (Nat.mul 2 h.n) fun a=>fN (Nat.mul 2 (Nat.succ h.n)) fun b=>fN (wlenK x) fun i=>fN (wlenK y) fun j=>numsF [x,y] h fun h'=>some (.agg ⟨[.bool n,.slice (some ⟨a,0,some 0⟩) i 0,.bool false,.slice (some ⟨b,0,some 0⟩) j 0]⟩,h')
 | .two n x k y=>fN (Nat.mul 2 h.n) fun a=>fN (Nat.mul 2 (Nat.succ h.n)) fun b=>fN (wlenK x) fun i=>fN (wlenK y) fun j=>numsF [x,y] h fun h'=>some (.tuple ⟨[.agg ⟨[.bool n,.slice (some ⟨a,0,some 0⟩) i 0]⟩,.agg ⟨[.bool k,.slice (some ⟨b,0,some 0⟩) j 0]⟩]⟩,h')
theorem outF_eq (r:NR) (h:IH):outF r h=some (r.value h.n,addNums h r.nums):=by
 unfold outF
 cases r<;>simp only[fN_eq,numsF_eq]<;>rfl
def nint (ks:List NK) (sem:List NV→Option NR) (args:List Value) (h:IH):Option (Value×IH):=match decodeL h ks args with
 | some al=>match sem al with
  | some r=>outF r h
  | none=>none
 | none=>none
theorem nint_calls {P:Program} (S:Sound (E0 P)) {f:FuncId} {ks:List NK} {sem:List NV→Option NR} (F:NumFn P f sem) {args:List Value} {h h':IH} {v:Value} (e:nint ks sem args h=some (v,h'))
  {B:Nat} {w0:World} {m:Mp} {w:World} {args':Array Value} (R:Rel B w0 m h w) (ha:LRel m args args'.toList) (fr:Fresh m h.n h'.n):CallsTo P f args' B w0 m h w v h':=by
 unfold nint at e
 split at e
 case h_2=>cases e
 rename_i al has
 split at e
 case h_2=>cases e
 rename_i r hr
 rw[outF_eq] at e
 cases e
 obtain⟨e1,e2,e3⟩:=decodeL_some has
 obtain⟨g,W⟩:=F.right al r e2 hr
 have T:=toks_at al e3
 rw[e1,←fillA_toks] at ha
 have hw : ∀us,us.length=(xsL al).length→(∀(i:Nat) (u:Value),us[i]?=some u→NumAt (xsL al) i u)→WV P (.func (.func f) #[] #[]) (fillA al us) (IH.start (numBase (xsL al))) fun v h'=>r.real h' v :=
  fun us hl hu=>W _ _ (reals_fill _ al us hl (fun i x u hx h2=>numAt_sl (hu i u h2) hx) e2)
 by_cases c : ∃v,r=.val v
 ·obtain⟨v,rfl⟩:=c
  exact num_plain S R T (fillA_para al e2) ha F.body g hw
 ·have nv : ∀v,r≠.val v:=fun v e=>c ⟨v,e⟩
  have:=num_nums S R T (fillA_para al e2) ha F.body (r.para nv) (fun us hl hu=>(hw us hl hu).mono fun v h' p=>NR.real_fill nv g p) (by rw[addNums_n] at fr;exact fr)
  rw[NR.fill_toks] at this
  exact this
def E2 (P:Program) (tb:FuncId→Option (List Value→Option Value)) (tn:FuncId→Option (List Value→IH→Option (Value×IH))):Env:=⟨P,fun _ _=>none,fun f=>match tn f with
 | some g=>some g
 | none=>(E1 P tb).intr f⟩
theorem sound2 {P:Program} {tb:FuncId→Option (List Value→Option Value)} {tn:FuncId→Option (List Value→IH→Option (Value×IH))} (S0:Sound (E0 P)) (S:Sound (E1 P tb)) (hn : ∀f g,tn f=some g → ∃ks sem,g=nint ks sem∧NumFn P f sem):Sound (E2 P tb tn) where
 mixed:=S.mixed
 names:=S.names
 origin:=S.origin
 intrN:=fun f g hg args h v h' e=>by
  have hg:(match tn f with|some g=>some g|none=>(E1 P tb).intr f)=some g:=hg
  split at hg
  ·rename_i g' hg'
   cases hg
   obtain⟨ks,sem,rfl,F⟩:=hn f _ hg'
   unfold nint at e
   split at e
   case h_2=>cases e
   split at e
   case h_2=>cases e
   rw[outF_eq] at e
   cases e
   rw[addNums_n];omega
  ·exact S.intrN f g hg args h v h' e
 intr:=fun f g hg=>by
  have hg:(match tn f with|some g=>some g|none=>(E1 P tb).intr f)=some g:=hg
  split at hg
  ·rename_i g' hg'
   cases hg
   obtain⟨ks,sem,rfl,F⟩:=hn f _ hg'
   exact⟨F.body,fun args h v h' e B w0 m w args' R ha fr=>nint_calls S0 F e R ha fr⟩
  ·exact S.intr f g hg
end
end Go.Id

namespace Go.Id
open Go
def ElCs (R:IH→Value→Rat→Prop) (h:IH):List Rat→List Value→Prop
 | [],cs=>cs = []
 | q :: l,cs => ∃a s b t cs',cs=a :: s :: b :: t :: cs'∧R h (.agg #[a,s,b,t]) q∧ElCs R h l cs'
theorem ElCs.at {R:IH→Value→Rat→Prop} {h:IH} : ∀{l:List Rat} {cs:List Value} {i:Nat} {q:Rat},ElCs R h l cs→l[i]?=some q → ∃a s b t,(cs.drop (i*4)).take 4 = [a,s,b,t]∧R h (.agg #[a,s,b,t]) q
 | [],_,_,_,_,H=>by simp at H
 | x :: l,_,0,q,⟨a,s,b,t,cs',h1,h2,h3⟩,H=>by
  subst h1
  simp at H;subst H
  exact⟨a,s,b,t,rfl,h2⟩
 | x :: l,_,i+1,q,⟨a,s,b,t,cs',h1,h2,h3⟩,H=>by
  subst h1
  simp at H
  obtain⟨a',s',b',t',e,r⟩:=ElCs.at h3 H
  refine⟨a',s',b',t',?_,r⟩
  rw[show(i+1)*4=i*4+4 by omega]
  simpa using e
theorem QB.zero:QB 0 (0:Rat):=⟨by simp,by simp⟩
end Go.Id

namespace Go.Id
open Go
theorem PRat.parts {h:IH} {v:Value} {q:Rat} (p:PRat h v q) : ∃a s b t,v=.agg #[a,s,b,t]∧PLong h (.agg #[a,s]) q.num∧PLong h (.agg #[b,t]) q.den∧s.cells = #[s]∧cellOK s=true∧t.cells = #[t]∧cellOK t=true∧cellOK a=true∧cellOK b=true:=by
 obtain⟨a,s,b,t,rfl,h1,h2⟩:=p
 obtain⟨rfl,c1,o1⟩:=h1.co
 obtain⟨rfl,c2,o2⟩:=h2.co
 exact⟨_,s,_,t,rfl,h1,h2,c1,o1,c2,o2,rfl,rfl⟩
theorem pl4 {H:IH} {k:Nat} {a s b t:Value} (g:H.ext.get k=some (.cells [a,s,b,t] 0 none)):load Proofs.Tryz.prog H 87 (ptr (2*k) 0)=some (.agg #[a,s])∧load Proofs.Tryz.prog H 87 (ptr (2*k) 2)=some (.agg #[b,t])∧load Proofs.Tryz.prog H 117 (ptr (2*k) 0)=some (.agg #[a,s,b,t]):=by
 have r:=row_of g
 refine⟨?_,?_,?_⟩
 ·simp -dsimp (maxSteps:=1000000) (disch:=first|omega|(simp only[new_n,put_n];omega)|decide +kernel|(repeat first|rw[new_n]|rw[put_n])) only[wpS,wpT,Nat.reduceLeDiff,Nat.reduceAdd,ld87,r]
  rfl
 ·simp -dsimp (maxSteps:=1000000) (disch:=first|omega|(simp only[new_n,put_n];omega)|decide +kernel|(repeat first|rw[new_n]|rw[put_n])) only[wpS,wpT,Nat.reduceLeDiff,Nat.reduceAdd,ld87,r]
  rfl
 ·simp -dsimp (maxSteps:=1000000) (disch:=first|omega|(simp only[new_n,put_n];omega)|decide +kernel|(repeat first|rw[new_n]|rw[put_n])) only[wpS,wpT,Nat.reduceLeDiff,Nat.reduceAdd,ld117,r]
  rfl
theorem pl2 {H:IH} {k:Nat} {a s:Value} (g:H.ext.get k=some (.cells [a,s] 0 none)):load Proofs.Tryz.prog H 87 (ptr (2*k) 0)=some (.agg #[a,s]):=by
 have r:=row_of g
 simp -dsimp (maxSteps:=1000000) (disch:=first|omega|(simp only[new_n,put_n];omega)|decide +kernel|(repeat first|rw[new_n]|rw[put_n])) only[wpS,wpT,Nat.reduceLeDiff,Nat.reduceAdd,ld87,r]
 rfl
set_option maxHeartbeats 2000000 in
theorem rplus_ok {h:IH} {v w:Value} {x y:Rat} {a b:Nat} (hv:PRat h v x) (hw:PRat h w y) (qx:QB a x) (qy:QB b y) (hk:a+b+1<16000000) :
  WV Proofs.Tryz.prog (.func (.func 102) #[] #[]) [v,w] h fun r h'=>Ext h h'∧PRat h' r (x+y):=by
 obtain⟨a1,s1,b1,t1,rfl,hn1,hd1,c1,o1,c2,o2,o3,o4⟩:=hv.parts
 obtain⟨a2,s2,b2,t2,rfl,hn2,hd2,c5,o5,c6,o6,o7,o8⟩:=hw.parts
 refine enter (nt:=22) (rs:=[.cell 4 117]) Proofs.Tryz.func102 rfl rfl rfl (by simp) ?_
 simp -dsimp (maxSteps:=1000000) (disch:=first|omega|(simp only[new_n,put_n];omega)|decide +kernel|(repeat first|rw[new_n]|rw[put_n])) only[wpS,Nat.reduceEqDiff,Nat.reduceAdd,zc117]
 obtain⟨H0,hH0,n0,E0,g0,g1,g2⟩:=boxes3 h [a1,s1,b1,t1] [a2,s2,b2,t2] ZR
 rw[←hH0]
 clear hH0
 have X0:=Ext.refl H0
 obtain⟨L1,L2,_⟩:=pl4 g0
 obtain⟨L3,L4,_⟩:=pl4 g1
 refine drawn [(6,[4]),(8,[4]),(12,[4,9,10]),(14,[4,9,10])] (by kernel_rfl) (by kernel_rfl) rfl ?_
 simp -dsimp (maxSteps:=1000000) (disch:=first|omega|(simp only[new_n,put_n];omega)|decide +kernel|(repeat first|rw[new_n]|rw[put_n])) only[wpS,wpT,Nat.reduceEqDiff,Nat.reduceLeDiff,Nat.reduceAdd,fa117_0,ld87,fa117_1,row_of g0,row_of g1,tkA,tkB]
 refine call (ptimes_ok (hn1.keep E0.keep) (hd2.keep E0.keep) (half_bits qx.1 (by omega)) (half_bits qy.den' (by omega))) ?_
 rintro r1 h1 ⟨X1,p1⟩
 have m1:=X1.n
 simp -dsimp (maxSteps:=1000000) (disch:=first|omega|(simp only[new_n,put_n];omega)|decide +kernel|(repeat first|rw[new_n]|rw[put_n])) only[wpS,wpT,Nat.reduceEqDiff,Nat.reduceLeDiff,Nat.reduceAdd,fa117_0,ld87,fa117_1,row_of (X1.kept (by omega) g0),row_of (X1.kept (by omega) g1),tkA,tkB]
 refine call (ptimes_ok (hn2.keep (E0.trans X1).keep) (hd1.keep (E0.trans X1).keep) (half_bits qy.1 (by omega)) (half_bits qx.den' (by omega))) ?_
 rintro r2 h2 ⟨hE2,p2⟩
 have m2:=hE2.n
 have X2:=X1.trans hE2
 simp -dsimp (maxSteps:=1000000) (disch:=first|omega|(simp only[new_n,put_n];omega)|decide +kernel|(repeat first|rw[new_n]|rw[put_n])) only[wpS,Nat.reduceEqDiff]
 have b1':=mul_bits qx.1 qy.den'
 have b2':=mul_bits qy.1 qx.den'
 have b3':=qx.addN qy
 have b4':=mul_bits qx.den' qy.den'
 have sb1:SmallI (x.num*y.den):=small_bits b1' (by omega)
 have sb2:SmallI (y.num*x.den):=small_bits b2' (by omega)
 have sb3:SmallI (x.num*y.den+y.num*x.den):=small_bits b3' hk
 have sb4:SmallI ((x.den:Int)*y.den):=small_bits b4' (by omega)
 refine call (pplus_ok (p1.keep hE2.keep) p2 sb1 sb2) ?_
 rintro r3 h3 ⟨hE3,p3⟩
 have m3:=hE3.n
 have X3:=X2.trans hE3
 simp -dsimp (maxSteps:=1000000) (disch:=first|omega|(simp only[new_n,put_n];omega)|decide +kernel|(repeat first|rw[new_n]|rw[put_n])) only[wpS,wpT,Nat.reduceEqDiff,Nat.reduceLeDiff,Nat.reduceAdd,ld87,fa117_1,row_of (X3.kept (by omega) g0),row_of (X3.kept (by omega) g1),tkB]
 refine call (ptimes_ok (hd1.keep (E0.trans X3).keep) (hd2.keep (E0.trans X3).keep) (half_bits qx.den' (by omega)) (half_bits qy.den' (by omega))) ?_
 rintro r4 h4 ⟨hE4,p4⟩
 have m4:=hE4.n
 have X4:=X3.trans hE4
 simp -dsimp (maxSteps:=1000000) (disch:=first|omega|(simp only[new_n,put_n];omega)|decide +kernel|(repeat first|rw[new_n]|rw[put_n])) only[wpS,Nat.reduceEqDiff]
 refine call (lowest_ok (p3.keep hE4.keep) p4 sb3 sb4 (dd_ne x y)) ?_
 rintro r5 h5 ⟨hE5,p5⟩
 have m5:=hE5.n
 have X5:=X4.trans hE5
 rw[←rat_add] at p5
 obtain⟨a3,s3,b3,t3,rfl,_,_,d1,o1,d2,o2,o3,o4⟩:=p5.parts
 have kg:=X5.kept (by omega) g2
 simp -dsimp (maxSteps:=1000000) (disch:=first|omega|(simp only[new_n,put_n];omega)|decide +kernel|(repeat first|rw[new_n]|rw[put_n])) only[wpS,wpT,Nat.reduceEqDiff,Nat.reduceLeDiff,Nat.reduceAdd,st117,kg,o1,o2,o3,o4]
 refine⟨by repeat' first|refine wpSteady_c2 ?_ ?_|refine wpSteady_t2 ?_ ?_|exact wpSteady_one rfl rfl rfl rfl (steady_ext (H0:=H0) rfl (by omega) (by assumption) (by assumption) (by with_reducible assumption)),?_⟩
 simp -dsimp (maxSteps:=1000000) (disch:=first|omega|(simp only[new_n,put_n];omega)|decide +kernel|(repeat first|rw[new_n]|rw[put_n])) only[wpS,wpT,Nat.reduceEqDiff,Nat.reduceLeDiff,Nat.reduceAdd,ld117,tk4']
 exact⟨(E0.trans X5).put (by omega) _,p5.keep ((Keep.refl _).put kg _)⟩
set_option maxHeartbeats 2000000 in
theorem rtimes_ok {h:IH} {v w:Value} {x y:Rat} {a b:Nat} (hv:PRat h v x) (hw:PRat h w y) (qx:QB a x) (qy:QB b y) (hk:a+b<16000000) :
  WV Proofs.Tryz.prog (.func (.func 75) #[] #[]) [v,w] h fun r h'=>Ext h h'∧PRat h' r (x*y):=by
 obtain⟨a1,s1,b1,t1,rfl,hn1,hd1,c1,o1,c2,o2,o3,o4⟩:=hv.parts
 obtain⟨a2,s2,b2,t2,rfl,hn2,hd2,c5,o5,c6,o6,o7,o8⟩:=hw.parts
 refine enter (nt:=16) (rs:=[.cell 4 117]) Proofs.Tryz.func75 rfl rfl rfl (by simp) ?_
 simp -dsimp (maxSteps:=1000000) (disch:=first|omega|(simp only[new_n,put_n];omega)|decide +kernel|(repeat first|rw[new_n]|rw[put_n])) only[wpS,Nat.reduceEqDiff,Nat.reduceAdd,zc117]
 obtain⟨H0,hH0,n0,E0,g0,g1,g2⟩:=boxes3 h [a1,s1,b1,t1] [a2,s2,b2,t2] ZR
 rw[←hH0]
 clear hH0
 have X0:=Ext.refl H0
 obtain⟨L1,L2,_⟩:=pl4 g0
 obtain⟨L3,L4,_⟩:=pl4 g1
 have sb1:SmallI (x.num*y.num):=small_bits (mul_bits qx.1 qy.1) hk
 have sb2:SmallI ((x.den:Int)*y.den):=small_bits (mul_bits qx.den' qy.den') hk
 refine drawn [(6,[4]),(8,[4])] (by kernel_rfl) (by kernel_rfl) rfl ?_
 simp -dsimp (maxSteps:=1000000) (disch:=first|omega|(simp only[new_n,put_n];omega)|decide +kernel|(repeat first|rw[new_n]|rw[put_n])) only[wpS,wpT,Nat.reduceEqDiff,Nat.reduceLeDiff,Nat.reduceAdd,fa117_0,ld87,row_of g0,row_of g1,tkA]
 refine call (ptimes_ok (hn1.keep E0.keep) (hn2.keep E0.keep) (half_bits qx.1 (by omega)) (half_bits qy.1 (by omega))) ?_
 rintro r1 h1 ⟨X1,p1⟩
 have m1:=X1.n
 simp -dsimp (maxSteps:=1000000) (disch:=first|omega|(simp only[new_n,put_n];omega)|decide +kernel|(repeat first|rw[new_n]|rw[put_n])) only[wpS,wpT,Nat.reduceEqDiff,Nat.reduceLeDiff,Nat.reduceAdd,ld87,fa117_1,row_of (X1.kept (by omega) g0),row_of (X1.kept (by omega) g1),tkB]
 refine call (ptimes_ok (hd1.keep (E0.trans X1).keep) (hd2.keep (E0.trans X1).keep) (half_bits qx.den' (by omega)) (half_bits qy.den' (by omega))) ?_
 rintro r2 h2 ⟨hE2,p2⟩
 have m2:=hE2.n
 have X2:=X1.trans hE2
 simp -dsimp (maxSteps:=1000000) (disch:=first|omega|(simp only[new_n,put_n];omega)|decide +kernel|(repeat first|rw[new_n]|rw[put_n])) only[wpS,Nat.reduceEqDiff]
 refine call (lowest_ok (p1.keep hE2.keep) p2 sb1 sb2 (dd_ne x y)) ?_
 rintro r5 h5 ⟨hE5,p5⟩
 have m5:=hE5.n
 have X5:=X2.trans hE5
 rw[←rat_mul] at p5
 obtain⟨a3,s3,b3,t3,rfl,_,_,d1,o1,d2,o2,o3,o4⟩:=p5.parts
 have kg:=X5.kept (by omega) g2
 simp -dsimp (maxSteps:=1000000) (disch:=first|omega|(simp only[new_n,put_n];omega)|decide +kernel|(repeat first|rw[new_n]|rw[put_n])) only[wpS,wpT,Nat.reduceEqDiff,Nat.reduceLeDiff,Nat.reduceAdd,st117,kg,o1,o2,o3,o4]
 refine⟨by repeat' first|refine wpSteady_c2 ?_ ?_|refine wpSteady_t2 ?_ ?_|exact wpSteady_one rfl rfl rfl rfl (steady_ext (H0:=H0) rfl (by omega) (by assumption) (by assumption) (by with_reducible assumption)),?_⟩
 simp -dsimp (maxSteps:=1000000) (disch:=first|omega|(simp only[new_n,put_n];omega)|decide +kernel|(repeat first|rw[new_n]|rw[put_n])) only[wpS,wpT,Nat.reduceEqDiff,Nat.reduceLeDiff,Nat.reduceAdd,ld117,tk4']
 exact⟨(E0.trans X5).put (by omega) _,p5.keep ((Keep.refl _).put kg _)⟩
set_option maxHeartbeats 2000000 in
theorem rover_ok {h:IH} {v w:Value} {x y:Rat} {a b:Nat} (hv:PRat h v x) (hw:PRat h w y) (qx:QB a x) (qy:QB b y) (hk:a+b<16000000) (y0:y≠0) :
  WV Proofs.Tryz.prog (.func (.func 63) #[] #[]) [v,w] h fun r h'=>Ext h h'∧PRat h' r (x / y):=by
 obtain⟨a1,s1,b1,t1,rfl,hn1,hd1,c1,o1,c2,o2,o3,o4⟩:=hv.parts
 obtain⟨a2,s2,b2,t2,rfl,hn2,hd2,c5,o5,c6,o6,o7,o8⟩:=hw.parts
 refine enter (nt:=16) (rs:=[.cell 4 117]) Proofs.Tryz.func63 rfl rfl rfl (by simp) ?_
 simp -dsimp (maxSteps:=1000000) (disch:=first|omega|(simp only[new_n,put_n];omega)|decide +kernel|(repeat first|rw[new_n]|rw[put_n])) only[wpS,Nat.reduceEqDiff,Nat.reduceAdd,zc117]
 obtain⟨H0,hH0,n0,E0,g0,g1,g2⟩:=boxes3 h [a1,s1,b1,t1] [a2,s2,b2,t2] ZR
 rw[←hH0]
 clear hH0
 have X0:=Ext.refl H0
 obtain⟨L1,L2,_⟩:=pl4 g0
 obtain⟨L3,L4,_⟩:=pl4 g1
 have sb1:SmallI (x.num*y.den):=small_bits (mul_bits qx.1 qy.den') hk
 have sb2:SmallI ((x.den:Int)*y.num):=small_bits (mul_bits qx.den' qy.1) hk
 refine drawn [(6,[4]),(8,[4])] (by kernel_rfl) (by kernel_rfl) rfl ?_
 simp -dsimp (maxSteps:=1000000) (disch:=first|omega|(simp only[new_n,put_n];omega)|decide +kernel|(repeat first|rw[new_n]|rw[put_n])) only[wpS,wpT,Nat.reduceEqDiff,Nat.reduceLeDiff,Nat.reduceAdd,fa117_0,ld87,fa117_1,row_of g0,row_of g1,tkA,tkB]
 refine call (ptimes_ok (hn1.keep E0.keep) (hd2.keep E0.keep) (half_bits qx.1 (by omega)) (half_bits qy.den' (by omega))) ?_
 rintro r1 h1 ⟨X1,p1⟩
 have m1:=X1.n
 simp -dsimp (maxSteps:=1000000) (disch:=first|omega|(simp only[new_n,put_n];omega)|decide +kernel|(repeat first|rw[new_n]|rw[put_n])) only[wpS,wpT,Nat.reduceEqDiff,Nat.reduceLeDiff,Nat.reduceAdd,fa117_0,ld87,fa117_1,row_of (X1.kept (by omega) g0),row_of (X1.kept (by omega) g1),tkA,tkB]
 refine call (ptimes_ok (hd1.keep (E0.trans X1).keep) (hn2.keep (E0.trans X1).keep) (half_bits qx.den' (by omega)) (half_bits qy.1 (by omega))) ?_
 rintro r2 h2 ⟨hE2,p2⟩
 have m2:=hE2.n
 have X2:=X1.trans hE2
 simp -dsimp (maxSteps:=1000000) (disch:=first|omega|(simp only[new_n,put_n];omega)|decide +kernel|(repeat first|rw[new_n]|rw[put_n])) only[wpS,Nat.reduceEqDiff]
 refine call (lowest_ok (p1.keep hE2.keep) p2 sb1 sb2 (Int.mul_ne_zero (den_ne x) (num_ne y0))) ?_
 rintro r5 h5 ⟨hE5,p5⟩
 have m5:=hE5.n
 have X5:=X2.trans hE5
 rw[←rat_div] at p5
 obtain⟨a3,s3,b3,t3,rfl,_,_,d1,o1,d2,o2,o3,o4⟩:=p5.parts
 have kg:=X5.kept (by omega) g2
 simp -dsimp (maxSteps:=1000000) (disch:=first|omega|(simp only[new_n,put_n];omega)|decide +kernel|(repeat first|rw[new_n]|rw[put_n])) only[wpS,wpT,Nat.reduceEqDiff,Nat.reduceLeDiff,Nat.reduceAdd,st117,kg,o1,o2,o3,o4]
 refine⟨by repeat' first|refine wpSteady_c2 ?_ ?_|refine wpSteady_t2 ?_ ?_|exact wpSteady_one rfl rfl rfl rfl (steady_ext (H0:=H0) rfl (by omega) (by assumption) (by assumption) (by with_reducible assumption)),?_⟩
 simp -dsimp (maxSteps:=1000000) (disch:=first|omega|(simp only[new_n,put_n];omega)|decide +kernel|(repeat first|rw[new_n]|rw[put_n])) only[wpS,wpT,Nat.reduceEqDiff,Nat.reduceLeDiff,Nat.reduceAdd,ld117,tk4']
 exact⟨(E0.trans X5).put (by omega) _,p5.keep ((Keep.refl _).put kg _)⟩
theorem cmp_rat (x y:Rat):(if x.num*y.den<y.num*x.den then (-1:Int) else if x.num*y.den=y.num*x.den then 0 else 1)=if x<y then -1 else if x=y then 0 else 1:=by
 simp only[Rat.lt_iff,Rat.eq_iff_mul_eq_mul]
set_option maxHeartbeats 2000000 in
theorem rcmp_ok {h:IH} {v w:Value} {x y:Rat} {a b:Nat} (hv:PRat h v x) (hw:PRat h w y) (qx:QB a x) (qy:QB b y) (hk:a+b<16000000) :
  WV Proofs.Tryz.prog (.func (.func 76) #[] #[]) [v,w] h fun r h'=>Ext h h'∧r=KI (if x<y then -1 else if x=y then 0 else 1):=by
 obtain⟨a1,s1,b1,t1,rfl,hn1,hd1,c1,o1,c2,o2,o3,o4⟩:=hv.parts
 obtain⟨a2,s2,b2,t2,rfl,hn2,hd2,c5,o5,c6,o6,o7,o8⟩:=hw.parts
 refine enter (nt:=16) (rs:=[.tmp 4]) Proofs.Tryz.func76 rfl rfl rfl (by simp) ?_
 simp -dsimp (maxSteps:=1000000) (disch:=first|omega|(simp only[new_n,put_n];omega)|decide +kernel|(repeat first|rw[new_n]|rw[put_n])) only[wpS,Nat.reduceEqDiff,Nat.reduceAdd]
 obtain⟨H0,hH0,n0,E0,g0,g1⟩:=boxes2 h [a1,s1,b1,t1] [a2,s2,b2,t2]
 rw[←hH0]
 clear hH0
 have X0:=Ext.refl H0
 obtain⟨L1,L2,_⟩:=pl4 g0
 obtain⟨L3,L4,_⟩:=pl4 g1
 have sb1:SmallI (x.num*y.den):=small_bits (mul_bits qx.1 qy.den') hk
 have sb2:SmallI (y.num*x.den):=small_bits (by rw[Nat.add_comm];exact mul_bits qy.1 qx.den') hk
 refine drawn [(6,[4]),(8,[4])] (by kernel_rfl) (by kernel_rfl) rfl ?_
 simp -dsimp (maxSteps:=1000000) (disch:=first|omega|(simp only[new_n,put_n];omega)|decide +kernel|(repeat first|rw[new_n]|rw[put_n])) only[wpS,wpT,Nat.reduceEqDiff,Nat.reduceLeDiff,Nat.reduceAdd,fa117_0,ld87,fa117_1,row_of g0,row_of g1,tkA,tkB]
 refine call (ptimes_ok (hn1.keep E0.keep) (hd2.keep E0.keep) (half_bits qx.1 (by omega)) (half_bits qy.den' (by omega))) ?_
 rintro r1 h1 ⟨X1,p1⟩
 have m1:=X1.n
 simp -dsimp (maxSteps:=1000000) (disch:=first|omega|(simp only[new_n,put_n];omega)|decide +kernel|(repeat first|rw[new_n]|rw[put_n])) only[wpS,wpT,Nat.reduceEqDiff,Nat.reduceLeDiff,Nat.reduceAdd,fa117_0,ld87,fa117_1,row_of (X1.kept (by omega) g0),row_of (X1.kept (by omega) g1),tkA,tkB]
 refine call (ptimes_ok (hn2.keep (E0.trans X1).keep) (hd1.keep (E0.trans X1).keep) (half_bits qy.1 (by omega)) (half_bits qx.den' (by omega))) ?_
 rintro r2 h2 ⟨hE2,p2⟩
 have m2:=hE2.n
 have X2:=X1.trans hE2
 simp -dsimp (maxSteps:=1000000) (disch:=first|omega|(simp only[new_n,put_n];omega)|decide +kernel|(repeat first|rw[new_n]|rw[put_n])) only[wpS,Nat.reduceEqDiff]
 refine call (pcmp_ok (p1.keep hE2.keep) p2 sb1 sb2) ?_
 rintro _ h5 ⟨hE5,rfl⟩
 have X5:=X2.trans hE5
 rw[cmp_rat]
 simp -dsimp (maxSteps:=1000000) (disch:=first|omega|(simp only[new_n,put_n];omega)|decide +kernel|(repeat first|rw[new_n]|rw[put_n])) only[wpS,Nat.reduceEqDiff]
 refine⟨by repeat' first|refine wpSteady_c2 ?_ ?_|refine wpSteady_t2 ?_ ?_|exact wpSteady_one rfl rfl rfl rfl (steady_ext (H0:=H0) rfl (by omega) (by assumption) (by assumption) (by with_reducible assumption)),?_⟩
 simp -dsimp (maxSteps:=1000000) (disch:=first|omega|(simp only[new_n,put_n];omega)|decide +kernel|(repeat first|rw[new_n]|rw[put_n])) only[wpS,wpT,Nat.reduceEqDiff,Nat.reduceAdd]
 exact E0.trans X5
theorem rturned_ok {h:IH} {v:Value} {x:Rat} (hv:PRat h v x) :
  WV Proofs.Tryz.prog (.func (.func 103) #[] #[]) [v] h fun r h'=>Ext h h'∧PRat h' r (-x):=by
 obtain⟨a1,s1,b1,t1,rfl,hn1,hd1,c1,o1,c2,o2,o3,o4⟩:=hv.parts
 refine enter (nt:=9) (rs:=[.cell 2 117]) Proofs.Tryz.func103 rfl rfl rfl (by simp) ?_
 simp -dsimp (maxSteps:=1000000) (disch:=first|omega|(simp only[new_n,put_n];omega)|decide +kernel|(repeat first|rw[new_n]|rw[put_n])) only[wpS,zc117]
 obtain⟨H0,hH0,n0,E0,g0,g1⟩:=boxes2 h [a1,s1,b1,t1] ZR
 rw[←hH0]
 clear hH0
 have X0:=Ext.refl H0
 obtain⟨L1,L2,_⟩:=pl4 g0
 refine drawn [(4,[2])] (by kernel_rfl) (by kernel_rfl) rfl ?_
 simp -dsimp (maxSteps:=1000000) (disch:=first|omega|(simp only[new_n,put_n];omega)|decide +kernel|(repeat first|rw[new_n]|rw[put_n])) only[wpS,wpT,Nat.reduceEqDiff,Nat.reduceLeDiff,Nat.reduceAdd,fa117_0,ld87,row_of g0,tkA]
 refine call (pturned_ok (hn1.keep E0.keep)) ?_
 rintro r1 h1 ⟨X1,p1⟩
 have m1:=X1.n
 obtain⟨s3,rfl,c5,o5⟩:=p1.cells2
 have kg:=X1.kept (by omega) g1
 simp -dsimp (maxSteps:=1000000) (disch:=first|omega|(simp only[new_n,put_n];omega)|decide +kernel|(repeat first|rw[new_n]|rw[put_n])) only[wpS,wpT,Nat.reduceEqDiff,Nat.reduceLeDiff,Nat.reduceAdd,ld87,fa117_1,bv117,pl117_0,pl117_1,st117,row_of (X1.kept (by omega) g0),kg,tkB,o5,o2,o4]
 refine⟨by repeat' first|refine wpSteady_c2 ?_ ?_|refine wpSteady_t2 ?_ ?_|exact wpSteady_one rfl rfl rfl rfl (steady_ext (H0:=H0) rfl (by omega) (by assumption) (by assumption) (by with_reducible assumption)),?_⟩
 simp -dsimp (maxSteps:=1000000) (disch:=first|omega|(simp only[new_n,put_n];omega)|decide +kernel|(repeat first|rw[new_n]|rw[put_n])) only[wpS,wpT,Nat.reduceEqDiff,Nat.reduceLeDiff,Nat.reduceAdd,ld117,tk4']
 have kp:=(Keep.refl h1).put kg (.cells [.bool (decide (-x.num<0)),s3,b1,t1] 0 none)
 exact⟨(E0.trans X1).put (by omega) _,_,_,_,_,rfl,p1.keep kp,hd1.keep ((E0.trans X1).keep.trans kp)⟩
set_option maxHeartbeats 2000000 in
theorem rminus_ok {h:IH} {v w:Value} {x y:Rat} {a b:Nat} (hv:PRat h v x) (hw:PRat h w y) (qx:QB a x) (qy:QB b y) (hk:a+b+1<16000000) :
  WV Proofs.Tryz.prog (.func (.func 77) #[] #[]) [v,w] h fun r h'=>Ext h h'∧PRat h' r (x - y):=by
 obtain⟨a1,s1,b1,t1,rfl,hn1,hd1,c1,o1,c2,o2,o3,o4⟩:=hv.parts
 obtain⟨a2,s2,b2,t2,rfl,hn2,hd2,c5,o5,c6,o6,o7,o8⟩:=hw.parts
 refine enter (nt:=9) (rs:=[.cell 4 117]) Proofs.Tryz.func77 rfl rfl rfl (by simp) ?_
 simp -dsimp (maxSteps:=1000000) (disch:=first|omega|(simp only[new_n,put_n];omega)|decide +kernel|(repeat first|rw[new_n]|rw[put_n])) only[wpS,Nat.reduceEqDiff,Nat.reduceAdd,zc117]
 obtain⟨H0,hH0,n0,E0,g0,g1,g2⟩:=boxes3 h [a1,s1,b1,t1] [a2,s2,b2,t2] ZR
 rw[←hH0]
 clear hH0
 have X0:=Ext.refl H0
 obtain⟨_,_,L1⟩:=pl4 g0
 obtain⟨_,_,L2⟩:=pl4 g1
 refine drawn [(0,[3])] (by kernel_rfl) (by kernel_rfl) rfl ?_
 simp -dsimp (maxSteps:=1000000) (disch:=first|omega|(simp only[new_n,put_n];omega)|decide +kernel|(repeat first|rw[new_n]|rw[put_n])) only[wpS,wpT,Nat.reduceEqDiff,Nat.reduceLeDiff,Nat.reduceAdd,ld117,row_of g0,row_of g1,tk4']
 refine call (rturned_ok (hw.keep E0.keep)) ?_
 rintro r1 h1 ⟨X1,p1⟩
 have m1:=X1.n
 simp -dsimp (maxSteps:=1000000) (disch:=first|omega|(simp only[new_n,put_n];omega)|decide +kernel|(repeat first|rw[new_n]|rw[put_n])) only[wpS,Nat.reduceEqDiff]
 refine call (rplus_ok (hv.keep (E0.trans X1).keep) p1 qx qy.neg hk) ?_
 rintro r2 h2 ⟨hE2,p2⟩
 have X2:=X1.trans hE2
 have m2:=hE2.n
 rw[←Rat.sub_eq_add_neg] at p2
 obtain⟨a3,s3,b3,t3,rfl,_,_,d1,o1,d2,o2,o3,o4⟩:=p2.parts
 have kg:=X2.kept (by omega) g2
 simp -dsimp (maxSteps:=1000000) (disch:=first|omega|(simp only[new_n,put_n];omega)|decide +kernel|(repeat first|rw[new_n]|rw[put_n])) only[wpS,wpT,Nat.reduceEqDiff,Nat.reduceLeDiff,Nat.reduceAdd,st117,kg,o1,o2,o3,o4]
 refine⟨by repeat' first|refine wpSteady_c2 ?_ ?_|refine wpSteady_t2 ?_ ?_|exact wpSteady_one rfl rfl rfl rfl (steady_ext (H0:=H0) rfl (by omega) (by assumption) (by assumption) (by with_reducible assumption)),?_⟩
 simp -dsimp (maxSteps:=1000000) (disch:=first|omega|(simp only[new_n,put_n];omega)|decide +kernel|(repeat first|rw[new_n]|rw[put_n])) only[wpS,wpT,Nat.reduceEqDiff,Nat.reduceLeDiff,Nat.reduceAdd,ld117,tk4']
 exact⟨(E0.trans X2).put (by omega) _,p2.keep ((Keep.refl _).put kg _)⟩
end Go.Id
