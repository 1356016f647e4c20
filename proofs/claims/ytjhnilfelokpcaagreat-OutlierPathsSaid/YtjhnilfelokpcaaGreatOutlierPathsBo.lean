/-
  The ideal machine with functions on numbers of any length that are not evaluated by their text. The functions on fractions and integers of any length, by value: what is reckoned here is what they give.
-/
import Derived.Test.YtjhnilfelokpcaaGreatOutlierPathsBn
import Derived.Test.YtjhnilfelokpcaaGreatOutlierPathsBe
import Derived.Test.YtjhnilfelokpcaaGreatOutlierPathsAz
import Derived.Test.YtjhnilfelokpcaaGreatOutlierPathsAy
import Derived.Test.YtjhnilfelokpcaaGreatOutlierPathsBl
import Derived.Test.YtjhnilfelokpcaaGreatOutlierPathsAo
set_option linter.unusedVariables false
set_option linter.unusedSimpArgs false
set_option linter.defProp false
set_option linter.deprecated false
namespace Go.Id
open Go
noncomputable section
def NV.real (h:IH):NV→Value→Prop
 | .val v,u=>u=v
 | .long n _ x,u=>bj h u (sint n x)
 | .rat n _ x _ y,u=>fc h u (ko n x y)
def GK (h:IH):List NV→List Value→Prop
 | [],[]=>True
 | a :: al,u :: us=>a.real h u∧GK h al us
 | _,_=>False
theorem Dj {h:IH} {n:Bool} {x:Nat} {s:Value} (hn:n=true→x≠0) (w:Wrd h s x):bj h (.agg #[.bool n,s]) (sint n x):=⟨s,by rw[EK hn],by rw[il];exact w⟩
theorem sJ {n:Bool} {x y:Nat} (hy:y≠0) (hg:Nat.gcd x y=1):(ko n x y).num=sint n x∧(ko n x y).den=y:=by
 unfold ko
 have e:Nat.gcd (sint n x).natAbs y=1:=by rw[il];exact hg
 have:=Rat.divInt_ofNat (sint n x) y
 rw[show Rat.divInt (sint n x) (y:Int)=mkRat (sint n x) y from Rat.divInt_ofNat (sint n x) y]
 rw[←Rat.mk_eq_mkRat (sint n x) y hy e]
 exact⟨rfl,rfl⟩
theorem UZ {h:IH} {n:Bool} {x y:Nat} {s t:Value} (hn:n=true→x≠0) (hy:y≠0) (hg:Nat.gcd x y=1) (w:Wrd h s x) (u:Wrd h t y):fc h (.agg #[.bool n,s,.bool false,t]) (ko n x y):=by
 obtain⟨e1,e2⟩:=sJ (n:=n) hy hg
 refine⟨_,_,_,_,rfl,?_,?_⟩
 ·rw[e1];exact Dj hn w
 ·rw[e2];exact Dj (n:=false) (fun h=>by cases h) u
theorem oK (hB:IH) : ∀(al:List NV) (us:List Value),us.length=(xsL al).length→(∀(i x:Nat) (u:Value),(xsL al)[i]?=some x→us[i]?=some u→uV hB u x)→(∀a∈al,a.jm)→GK hB al (mT al us)
 | [],_,_,_,_=>trivial
 | .val v :: l,us,hl,h,hg=>⟨rfl,oK hB l us hl h fun a ha=>hg a (List.mem_cons_of_mem _ ha)⟩
 | .long n b x :: l,us,hl,h,hg=>by
  have g:(n=true→x≠0)∧gf x≤64:=hg _ List.mem_cons_self
  match us,hl,h with
  | [],hl,_=>simp[xsL,NV.xs] at hl
  | u :: us,hl,h =>
   exact⟨Dj g.1 (Hf (h 0 x u rfl rfl) (Nat.le_trans g.2 (by decide))),oK hB l us (by simpa [xsL,NV.xs] using hl) (fun i x' u' hx hu=>h (i+1) x' u' hx (by simpa using hu)) fun a ha=>hg a (List.mem_cons_of_mem _ ha)⟩
 | .rat n b x c y :: l,us,hl,h,hg=>by
  have g:((n=true→x≠0)∧(y≠0∧Nat.gcd x y=1))∧gf x≤64∧gf y≤64:=hg _ List.mem_cons_self
  match us,hl,h with
  | [],hl,_=>simp[xsL,NV.xs] at hl
  | [_],hl,_=>simp[xsL,NV.xs] at hl
  | u :: u2 :: us,hl,h =>
   exact⟨UZ g.1.1 g.1.2.1 g.1.2.2 (Hf (h 0 x u rfl rfl) (Nat.le_trans g.2.1 (by decide))) (Hf (h 1 y u2 rfl rfl) (Nat.le_trans g.2.2 (by decide))),oK hB l us (by simpa [xsL,NV.xs] using hl) (fun i x' u' hx hu=>h (i+2) x' u' hx (by simpa using hu)) fun a ha=>hg a (List.mem_cons_of_mem _ ha)⟩
inductive NR where
 | val (v:Value)
 | long (n:Bool) (x:Nat)
 | rat (n:Bool) (x y:Nat)
 | two (n:Bool) (x:Nat) (k:Bool) (y:Nat)
def NR.real (h:IH):NR→Value→Prop
 | .val v0,v=>v=v0
 | .long n x,v=>bj h v (sint n x)
 | .rat n x y,v=>fc h v (ko n x y)
 | .two n x k y,v => ∃a b,v=.tuple #[a,b]∧bj h a (sint n x)∧bj h b (sint k y)
def NR.jm:NR→Prop
 | .val v=>lY v=true
 | .long n x=>n=true→x≠0
 | .rat n x y=>(n=true→x≠0)∧y≠0∧Nat.gcd x y=1
 | .two n x k y=>(n=true→x≠0)∧(k=true→y≠0)
def NR.rC:NR→List Nat
 | .val _ => []
 | .long _ x => [x]
 | .rat _ x y => [x,y]
 | .two _ x _ y => [x,y]
def xy (b x:Nat):Value:=.slice (some ⟨b,0,some 0⟩) (wk x) 0
theorem tH (b x:Nat):xy b x=my b x:=by unfold xy my;rw[Ef]
def NR.value (n0:Nat):NR→Value
 | .val v=>v
 | .long n x=>.agg #[.bool n,xy (2*n0) x]
 | .rat n x y=>.agg #[.bool n,xy (2*n0) x,.bool false,xy (2*(n0+1)) y]
 | .two n x k y=>.tuple #[.agg #[.bool n,xy (2*n0) x],.agg #[.bool k,xy (2*(n0+1)) y]]
def NR.fill:NR→List Value→Value
 | .val v,_=>v
 | .long n _,ss=>.agg #[.bool n,ss.headD undef]
 | .rat n _ _,ss=>.agg #[.bool n,ss.headD undef,.bool false,(ss.drop 1).headD undef]
 | .two n _ k _,ss=>.tuple #[.agg #[.bool n,ss.headD undef],.agg #[.bool k,(ss.drop 1).headD undef]]
theorem NR.MM (r:NR) (n0:Nat):r.fill (iG (BJ n0 r.rC.length) r.rC)=r.value n0:=by
 cases r with
 | val v=>rfl
 | long n x=>show Value.agg #[.bool n,my (2*(n0+0)) x]=.agg #[.bool n,xy (2*n0) x];rw[tH,Nat.add_zero]
 | rat n x y=>show Value.agg #[.bool n,my (2*(n0+0)) x,.bool false,my (2*(n0+1)) y]=.agg #[.bool n,xy (2*n0) x,.bool false,xy (2*(n0+1)) y];rw[tH,tH,Nat.add_zero]
 | two n x k y=>show Value.tuple #[.agg #[.bool n,my (2*(n0+0)) x],.agg #[.bool k,my (2*(n0+1)) y]]=.tuple #[.agg #[.bool n,xy (2*n0) x],.agg #[.bool k,xy (2*(n0+1)) y]];rw[tH,tH,Nat.add_zero]
theorem zu {m:Mp} {n:Bool} {s v':Value} (h:aC m (.agg #[.bool n,s]) v') : ∃s',aC m s s' ∧ ∀(m2:Mp) (u:Value),aC m2 u s'→aC m2 (.agg #[.bool n,u]) v':=by
 obtain⟨cs',rfl,h5⟩:=h.pk
 obtain⟨b',r',e1,h6,h7⟩:=fA h5
 obtain⟨s',r2,rfl,h8,h9⟩:=fA h7
 obtain rfl:=ui h9
 have hb:=h6.ct rfl
 subst hb
 refine⟨s',h8,fun m2 u hu=>.kY ?_⟩
 rw[e1]
 exact .cons (.bJ rfl) (.cons hu (.nil m2))
theorem NR.para (r:NR) (hv : ∀v,r≠.val v):Yx r.fill r.rC.length:=by
 intro m ss v' hl h
 cases r with
 | val v=>exact absurd rfl (hv v)
 | long n x =>
  match ss,hl with
  | [s],_ =>
   obtain⟨s',h1,h2⟩:=zu h
   refine⟨[s'],.cons h1 (.nil m),fun m2 us hu=>?_⟩
   match us,hu with
   | [u],hu=>exact h2 m2 u (hu.2 0 u s' rfl rfl)
   | [],hu=>have:=hu.1;simp at this
   | _ :: _ :: _,hu=>have:=hu.1;simp at this
  | [],hl=>simp[NR.rC] at hl
  | _ :: _ :: _,hl=>simp[NR.rC] at hl
 | rat n x y =>
  match ss,hl with
  | [s,t],_ =>
   obtain⟨ss',h1,h2⟩:=jL [.rat n 0 1 0 1] (fun a ha=>by
    simp at ha;subst ha
    refine⟨⟨fun _=>by decide,by decide,by decide⟩,?_⟩
    have:gf 1≤64:=by
     unfold gf;rw[lC (by decide),show 1 / 18446744073709551616=0 from rfl,jM];decide
    exact⟨this,this⟩) m [s,t] [v'] rfl (.cons h (.nil m))
   exact⟨ss',h1,fun m2 us hu=>by
    have h3:=h2 m2 us hu
    match us,hu with
    | [u,w],hu=>exact h3.2 0 _ _ rfl rfl
    | [],hu=>have a:=hu.1;have b:=h1.1;rw[←a] at b;simp at b
    | [_],hu=>have a:=hu.1;have b:=h1.1;rw[←a] at b;simp at b
    | _ :: _ :: _ :: _,hu=>have a:=hu.1;have b:=h1.1;rw[←a] at b;simp at b⟩
  | [],hl=>simp[NR.rC] at hl
  | [_],hl=>simp[NR.rC] at hl
  | _ :: _ :: _ :: _,hl=>simp[NR.rC] at hl
 | two n x k y =>
  match ss,hl with
  | [s,t],_ =>
   obtain⟨cs',rfl,h5⟩:=h.nD
   obtain⟨v1,r1,e1,h6,h7⟩:=fA h5
   obtain⟨v2,r2,rfl,h8,h9⟩:=fA h7
   obtain rfl:=ui h9
   obtain⟨s',a1,a2⟩:=zu h6
   obtain⟨t',b1,b2⟩:=zu h8
   refine⟨[s',t'],.cons a1 (.cons b1 (.nil m)),fun m2 us hu=>?_⟩
   match us,hu with
   | [u,w],hu =>
    refine .fu ?_
    rw[e1]
    exact .cons (a2 m2 u (hu.2 0 u s' rfl rfl)) (.cons (b2 m2 w (hu.2 1 w t' rfl rfl)) (.nil m2))
   | [],hu=>have:=hu.1;simp at this
   | [_],hu=>have:=hu.1;simp at this
   | _ :: _ :: _ :: _,hu=>have:=hu.1;simp at this
  | [],hl=>simp[NR.rC] at hl
  | [_],hl=>simp[NR.rC] at hl
  | _ :: _ :: _ :: _,hl=>simp[NR.rC] at hl
theorem ur {h:IH} {v:Value} {n:Bool} {x:Nat} (hn:n=true→x≠0) (p:bj h v (sint n x)) : ∃s,v=.agg #[.bool n,s]∧uV h s x:=by
 obtain⟨s,rfl,w⟩:=p
 rw[il] at w
 rw[EK hn]
 exact⟨s,rfl,Uw w⟩
theorem NR.LI {r:NR} (hv : ∀v,r≠.val v) (hg:r.jm) {h:IH} {v:Value} (p:r.real h v) : ∃ss,ss.length=r.rC.length∧v=r.fill ss ∧ ∀(j y:Nat) (s:Value),r.rC[j]?=some y→ss[j]?=some s→uV h s y:=by
 cases r with
 | val v=>exact absurd rfl (hv v)
 | long n x =>
  obtain⟨s,rfl,w⟩:=ur hg p
  refine⟨[s],rfl,rfl,fun j y s' hy hs=>?_⟩
  match j with
  | 0=>cases hy;cases hs;exact w
  | j+1=>simp at hs
 | rat n x y =>
  obtain⟨a,s,b,t,rfl,p1,p2⟩:=p
  obtain⟨e1,e2⟩:=sJ (n:=n) hg.2.1 hg.2.2
  rw[e1] at p1
  rw[e2] at p2
  obtain⟨s1,q1,w1⟩:=ur hg.1 p1
  obtain⟨s2,q2,w2⟩:=ur (n:=false) (x:=y) (fun h=>by cases h) p2
  cases q1
  cases q2
  refine⟨[s,t],rfl,rfl,fun j z s' hy hs=>?_⟩
  match j with
  | 0=>cases hy;cases hs;exact w1
  | 1=>cases hy;cases hs;exact w2
  | j+2=>simp at hs
 | two n x k y =>
  obtain⟨a,b,rfl,p1,p2⟩:=p
  obtain⟨s1,rfl,w1⟩:=ur hg.1 p1
  obtain⟨s2,rfl,w2⟩:=ur hg.2 p2
  refine⟨[s1,s2],rfl,rfl,fun j z s' hy hs=>?_⟩
  match j with
  | 0=>cases hy;cases hs;exact w1
  | 1=>cases hy;cases hs;exact w2
  | j+2=>simp at hs
structure sf (P:Program) (f:FuncId) (sem:List NV→Option NR):Prop where
 body : ∃fn,P.funcs[f]?=some fn∧fn.body.isSome=true
 right : ∀al r,(∀a∈al,a.jm)→sem al=some r→r.jm ∧ ∀h us,GK h al us→WV P (.func (.func f) #[] #[]) us h fun v h'=>r.real h' v
def ye (h:IH):List NK→List Value→Option (List NV)
 | [],[]=>some []
 | k :: ks,v :: vs=>match decode h k v with
  | some a=>match ye h ks vs with
   | some al=>some (a :: al)
   | none=>none
  | none=>none
 | _,_=>none
theorem uI {h:IH} : ∀{ks:List NK} {vs:List Value} {al:List NV},ye h ks vs=some al→vs=al.map NV.value∧(∀a∈al,a.jm) ∧ ∀a∈al,a.at_ h
 | [],[],al,e=>by cases e;exact⟨rfl,(fun a ha=>by cases ha),(fun a ha=>by cases ha)⟩
 | [],_ :: _,_,e=>by cases e
 | _ :: _,[],_,e=>by cases e
 | k :: ks,v :: vs,al,e=>by
  unfold ye at e
  split at e
  ·rename_i a ha
   split at e
   ·rename_i l hl
    cases e
    obtain⟨h1,h2,h3⟩:=Gk ha
    obtain⟨h4,h5,h6⟩:=uI hl
    refine⟨by rw[h1,h4];rfl,fun b hb=>?_,fun b hb=>?_⟩
    ·rcases List.mem_cons.1 hb with rfl|hb
     ·exact h2
     ·exact h5 b hb
    ·rcases List.mem_cons.1 hb with rfl|hb
     ·exact h3
     ·exact h6 b hb
   ·cases e
  ·cases e
theorem Jc {h:IH} : ∀(al:List NV),(∀a∈al,a.at_ h)→Ns h (bsL al) (xsL al)
 | [],_=>⟨rfl,fun i b x hb=>by simp[bsL] at hb⟩
 | a :: l,hg=>by
  obtain⟨h1,h2⟩:=Jc l fun b hb=>hg b (List.mem_cons_of_mem _ hb)
  have ha:=hg a List.mem_cons_self
  cases a with
  | val v=>exact⟨h1,h2⟩
  | long n b x =>
   refine⟨by show(bsL l).length+1=(xsL l).length+1;rw[h1],fun i c y hc hy=>?_⟩
   match i with
   | 0=>cases hc;cases hy;exact ha
   | i+1=>exact h2 i c y hc hy
  | rat n b x c y =>
   refine⟨by show(bsL l).length+1+1=(xsL l).length+1+1;rw[h1],fun i d z hd hz=>?_⟩
   match i with
   | 0=>cases hd;cases hz;exact ha.1
   | 1=>cases hd;cases hz;exact ha.2
   | i+2=>exact h2 i d z hd hz
def Fv {α:Type} (l:List Nat) (h:IH) (k:IH→α):α:=List.rec (motive:=fun _=>IH→α) k (fun y _ ih h=>Mo h (.num y) fun _ h'=>ih h') l h
theorem Fu {α:Type} : ∀(l:List Nat) (h:IH) (k:IH→α),Fv l h k=k (fZ h l)
 | [],_,_=>rfl
 | y :: l,h,k=>by
  show Mo h (.num y) (fun _ h'=>Fv l h' k)=_
  rw[xU,Fu l];rfl
def U8 (r:NR) (h:IH):Option (Value×IH):=match r with
 | .val v=>some (v,h)
 | .long n x=>fN (Nat.mul 2 h.n) fun a=>fN (wk x) fun i=>Fv [x] h fun h'=>some (.agg ⟨[.bool n,.slice (some ⟨a,0,some 0⟩) i 0]⟩,h')
 | .rat n x y=>fN (Nat.mul 2 h.n) fun a=>fN (Nat.mul 2 (Nat.succ h.n)) fun b=>fN (wk x) fun i=>fN (wk y) fun j=>Fv [x,y] h fun h'=>some (.agg ⟨[.bool n,.slice (some ⟨a,0,some 0⟩) i 0,.bool false,.slice (some ⟨b,0,some 0⟩) j 0]⟩,h')
 | .two n x k y=>fN (Nat.mul 2 h.n) fun a=>fN (Nat.mul 2 (Nat.succ h.n)) fun b=>fN (wk x) fun i=>fN (wk y) fun j=>Fv [x,y] h fun h'=>some (.tuple ⟨[.agg ⟨[.bool n,.slice (some ⟨a,0,some 0⟩) i 0]⟩,.agg ⟨[.bool k,.slice (some ⟨b,0,some 0⟩) j 0]⟩]⟩,h')
theorem JN (r:NR) (h:IH):U8 r h=some (r.value h.n,fZ h r.rC):=by
 unfold U8
 cases r<;>simp only[dN,Fu]<;>rfl
def HO (ks:List NK) (sem:List NV→Option NR) (args:List Value) (h:IH):Option (Value×IH):=match ye h ks args with
 | some al=>match sem al with
  | some r=>U8 r h
  | none=>none
 | none=>none
theorem HN {P:Program} (S:Sound (E0 P)) {f:FuncId} {ks:List NK} {sem:List NV→Option NR} (F:sf P f sem) {args:List Value} {h h':IH} {v:Value} (e:HO ks sem args h=some (v,h'))
  {B:Nat} {w0:World} {m:Mp} {w:World} {args':Array Value} (R:Rel B w0 m h w) (ha:bz m args args'.toList) (fr:dX m h.n h'.n):j5 P f args' B w0 m h w v h':=by
 unfold HO at e
 split at e
 case h_2=>cases e
 rename_i al has
 split at e
 case h_2=>cases e
 rename_i r hr
 rw[JN] at e
 cases e
 obtain⟨e1,e2,e3⟩:=uI has
 obtain⟨g,W⟩:=F.right al r e2 hr
 have T:=Jc al e3
 rw[e1,←oW] at ha
 have hw : ∀us,us.length=(xsL al).length→(∀(i:Nat) (u:Value),us[i]?=some u→Ax (xsL al) i u)→WV P (.func (.func f) #[] #[]) (mT al us) (IH.start (fI (xsL al))) fun v h'=>r.real h' v :=
  fun us hl hu=>W _ _ (oK _ al us hl (fun i x u hx h2=>Pf (hu i u h2) hx) e2)
 by_cases c : ∃v,r=.val v
 ·obtain⟨v,rfl⟩:=c
  exact Ml S R T (jL al e2) ha F.body g hw
 ·have nv : ∀v,r≠.val v:=fun v e=>c ⟨v,e⟩
  have:=Pe S R T (jL al e2) ha F.body (r.para nv) (fun us hl hu=>(hw us hl hu).mono fun v h' p=>NR.LI nv g p) (by rw[ru] at fr;exact fr)
  rw[NR.MM] at this
  exact this
def E2 (P:Program) (tb:FuncId→Option (List Value→Option Value)) (tn:FuncId→Option (List Value→IH→Option (Value×IH))):Env:=⟨P,fun _ _=>none,fun f=>match tn f with
 | some g=>some g
 | none=>(E1 P tb).rE f⟩
theorem UM {P:Program} {tb:FuncId→Option (List Value→Option Value)} {tn:FuncId→Option (List Value→IH→Option (Value×IH))} (S0:Sound (E0 P)) (S:Sound (E1 P tb)) (hn : ∀f g,tn f=some g → ∃ks sem,g=HO ks sem∧sf P f sem):Sound (E2 P tb tn) where
 mixed:=S.mixed
 names:=S.names
 origin:=S.origin
 FZ:=fun f g hg args h v h' e=>by
  have hg:(match tn f with|some g=>some g|none=>(E1 P tb).rE f)=some g:=hg
  split at hg
  ·rename_i g' hg'
   cases hg
   obtain⟨ks,sem,rfl,F⟩:=hn f _ hg'
   unfold HO at e
   split at e
   case h_2=>cases e
   split at e
   case h_2=>cases e
   rw[JN] at e
   cases e
   rw[ru];omega
  ·exact S.FZ f g hg args h v h' e
 rE:=fun f g hg=>by
  have hg:(match tn f with|some g=>some g|none=>(E1 P tb).rE f)=some g:=hg
  split at hg
  ·rename_i g' hg'
   cases hg
   obtain⟨ks,sem,rfl,F⟩:=hn f _ hg'
   exact⟨F.body,fun args h v h' e B w0 m w args' R ha fr=>HN S0 F e R ha fr⟩
  ·exact S.rE f g hg
end
end Go.Id

namespace Go.Id
open Go
noncomputable section
def iN {α:Type} (a:Int) (k:Bool→Nat→α):α:=Int.rec (motive:=fun _=>α) (fun n=>fN n (k false)) (fun n=>fN (Nat.succ n) (k true)) a
theorem F3 {α:Type} (a:Int) (k:Bool→Nat→α):iN a k=k (decide (a<0)) a.natAbs:=by
 cases a with
 | ofNat n =>
  show fN n (k false)=k (decide ((n:Int)<0)) n
  rw[dN,decide_eq_false (by omega)]
 | negSucc n =>
  show fN (n+1) (k true)=k (decide (Int.negSucc n<0)) (n+1)
  rw[dN,decide_eq_true (by omega)]
def sI (n:Bool) (x:Nat):Int:=iB n (Int.neg (Int.ofNat x)) (Int.ofNat x)
theorem iW (n:Bool) (x:Nat):sI n x=sint n x:=by cases n<;>rfl
def uu (a:Int):NR:=iN a NR.long
def yW (a:Int) (d:Nat):NR:=iN a fun s x=>fN (Nat.gcd x d) fun g=>fN (Nat.div x g) fun x=>fN (Nat.div d g) fun y=>.rat s x y
def NZ (a b:Int):NR:=iN a fun s x=>iN b fun k y=>.two s x k y
theorem qT (a:Int):sint (decide (a<0)) a.natAbs=a:=by
 unfold sint
 by_cases h:a<0
 ·rw[if_pos (decide_eq_true h)];omega
 ·rw[if_neg (by simpa using h)];omega
theorem Om (s:Bool) (x g:Nat):sint s (x*g)=sint s x*g:=by
 unfold sint
 split
 ·rw[Int.natCast_mul,Int.neg_mul]
 ·rw[Int.natCast_mul]
theorem FM (a:Int):uu a=.long (decide (a<0)) a.natAbs:=by unfold uu;rw[F3]
theorem I8 (a b:Int):NZ a b=.two (decide (a<0)) a.natAbs (decide (b<0)) b.natAbs:=by unfold NZ;rw[F3,F3]
theorem Dd {a:Int} (h:decide (a<0)=true):a.natAbs≠0:=by have:=of_decide_eq_true h;omega
theorem me (a:Int):(uu a).jm:=by rw[FM];exact Dd
theorem md {a:Int} {h:IH} {v:Value} (p:bj h v a):(uu a).real h v:=by
 rw[FM]
 show bj h v (sint _ _)
 rw[qT];exact p
theorem Le (a b:Int):(NZ a b).jm:=by rw[I8];exact⟨Dd,Dd⟩
theorem Ld {a b:Int} {h:IH} {v:Value} (p : ∃q t,v=.tuple #[q,t]∧bj h q a∧bj h t b):(NZ a b).real h v:=by
 rw[I8]
 show ∃q t,v=.tuple #[q,t]∧bj h q (sint _ _)∧bj h t (sint _ _)
 rw[qT,qT];exact p
theorem Jy (a:Int) {d:Nat} (hd:0<d) : ∃x y,yW a d=.rat (decide (a<0)) x y∧sint (decide (a<0)) x=(Rat.divInt a d).num∧y=(Rat.divInt a d).den∧(a<0→x≠0):=by
 have g0:0<Nat.gcd a.natAbs d:=Nat.gcd_pos_of_pos_right _ hd
 have k1:a.natAbs / Nat.gcd a.natAbs d*Nat.gcd a.natAbs d=a.natAbs:=Nat.div_mul_cancel (Nat.gcd_dvd_left _ _)
 have k2:d / Nat.gcd a.natAbs d*Nat.gcd a.natAbs d=d:=Nat.div_mul_cancel (Nat.gcd_dvd_right _ _)
 obtain⟨l1,l2⟩:=oS (n:=a) (d:=d) (by omega)
 have eg:Int.gcd a d=Nat.gcd a.natAbs d:=by unfold Int.gcd;rw[Int.natAbs_natCast]
 rw[eg] at l1 l2
 refine⟨a.natAbs / Nat.gcd a.natAbs d,d / Nat.gcd a.natAbs d,?_,?_,?_,fun h e=>?_⟩
 ·unfold yW
  rw[F3,dN,dN,dN];rfl
 ·rw[←l1]
  have:a=sint (decide (a<0)) (a.natAbs / Nat.gcd a.natAbs d)*(Nat.gcd a.natAbs d:Nat):=by rw[←Om,k1,qT]
  exact(Int.ediv_eq_of_eq_mul_left (by omega) this).symm
 ·rw[←Int.natCast_ediv] at l2
  exact Int.ofNat.inj l2
 ·rw[e] at k1;omega
theorem lj (a:Int) {d:Nat} (hd:0<d):(yW a d).jm:=by
 obtain⟨x,y,e,e1,e2,e3⟩:=Jy a hd
 rw[e]
 refine⟨fun h=>e3 (of_decide_eq_true h),?_,?_⟩
 ·rw[e2];exact Rat.den_nz _
 ·have r:=(Rat.divInt a d).reduced
  rw[←e1,←e2,il] at r
  exact r
theorem lh {a:Int} {d:Nat} (hd:0<d) {h:IH} {v:Value} (p:fc h v (Rat.divInt a d)):(yW a d).real h v:=by
 obtain⟨x,y,e,e1,e2,e3⟩:=Jy a hd
 rw[e]
 show fc h v (ko _ _ _)
 unfold ko
 rw[e1,e2,Rat.num_divInt_den];exact p
theorem OS (n:Bool) (x:Nat):ko n x 1=(sint n x:Rat):=Rat.num_divInt_den ((sint n x:Int):Rat)
theorem Q4 {x k:Nat} (h:gf x≤64) (hk:64*64≤k):x≤2 ^ k:=by
 have a:=Rx x
 have p:(18446744073709551616:Nat) ^ gf x=2 ^ (64*gf x):=by rw[Nat.pow_mul]
 rw[p] at a
 exact Nat.le_trans (Nat.le_of_lt a) (Nat.pow_le_pow_right (by omega) (by omega))
theorem DT {x:Nat} (h:gf x≤64):x≤2 ^ 4096:=Q4 (k:=4096) h (Nat.le_refl _)
theorem tZ {n:Bool} {b x c y:Nat} (g:(NV.rat n b x c y).jm):(ko n x y).num=sint n x∧(ko n x y).den=y:=sJ g.1.2.1 g.1.2.2
theorem nc {n:Bool} {b x c y:Nat} (g:(NV.rat n b x c y).jm):QB 4096 (ko n x y):=by
 obtain⟨e1,e2⟩:=tZ g
 exact⟨by rw[e1,il];exact DT g.2.1,by rw[e2];exact DT g.2.2⟩
theorem vD {n:Bool} {b x:Nat} (g:(NV.long n b x).jm):fF (sint n x):=aS (k:=4096) (by rw[il];exact DT g.2) (by omega)
theorem fh {n:Bool} {b x:Nat} (g:(NV.long n b x).jm):aU (sint n x):=(vD g).small
theorem Hr {h:IH} {a:NV} {us:List Value} (R:GK h [a] us) : ∃v,us = [v]∧a.real h v:=by
 match us,R with
 | [],R=>exact R.elim
 | [v],R=>exact⟨v,rfl,R.1⟩
 | _ :: _ :: _,R=>exact R.2.elim
theorem OM {h:IH} {a b:NV} {us:List Value} (R:GK h [a,b] us) : ∃v w,us = [v,w]∧a.real h v∧b.real h w:=by
 match us,R with
 | [],R=>exact R.elim
 | [_],R=>exact R.2.elim
 | [v,w],R=>exact⟨v,w,rfl,R.1,R.2.1⟩
 | _ :: _ :: _ :: _,R=>exact R.2.2.elim
def onV (k:Value→Option NR) (l:List NV):Option NR:=match l with
 | [.val v]=>k v
 | _=>none
def onL (k:Bool→Nat→Option NR) (l:List NV):Option NR:=match l with
 | [.long n _ x]=>k n x
 | _=>none
def onQ (k:Bool→Nat→Nat→Option NR) (l:List NV):Option NR:=match l with
 | [.rat n _ x _ y]=>k n x y
 | _=>none
def Fs (k:Bool→Nat→Bool→Nat→Option NR) (l:List NV):Option NR:=match l with
 | [.long n _ x,.long m _ y]=>k n x m y
 | _=>none
def HE (k:Bool→Nat→Nat→Bool→Nat→Nat→Option NR) (l:List NV):Option NR:=match l with
 | [.rat n _ x _ y,.rat m _ u _ w]=>k n x y m u w
 | _=>none
theorem JQ {P:Program} {f:FuncId} {k:Value→Option NR} (hb : ∃fn,P.funcs[f]?=some fn∧fn.body.isSome=true)
  (w : ∀v r,k v=some r→r.jm ∧ ∀h,WV P (.func (.func f) #[] #[]) [v] h fun u h'=>r.real h' u):sf P f (onV k) where
 body:=hb
 right:=fun al r hg e=>by
  unfold onV at e
  split at e
  case h_2=>cases e
  obtain⟨h1,h2⟩:=w _ _ e
  refine⟨h1,fun h us R=>?_⟩
  obtain⟨v,rfl,rfl⟩:=Hr R
  exact h2 h
theorem JR {P:Program} {f:FuncId} {k:Bool→Nat→Option NR} (hb : ∃fn,P.funcs[f]?=some fn∧fn.body.isSome=true)
  (w : ∀n b x r,(NV.long n b x).jm→k n x=some r→r.jm ∧ ∀h v,bj h v (sint n x)→WV P (.func (.func f) #[] #[]) [v] h fun u h'=>r.real h' u):sf P f (onL k) where
 body:=hb
 right:=fun al r hg e=>by
  unfold onL at e
  split at e
  case h_2=>cases e
  obtain⟨h1,h2⟩:=w _ _ _ _ (hg _ List.mem_cons_self) e
  refine⟨h1,fun h us R=>?_⟩
  obtain⟨v,rfl,p⟩:=Hr R
  exact h2 h v p
theorem TN {P:Program} {f:FuncId} {k:Bool→Nat→Nat→Option NR} (hb : ∃fn,P.funcs[f]?=some fn∧fn.body.isSome=true)
  (w : ∀n b x c y r,(NV.rat n b x c y).jm→k n x y=some r→r.jm ∧ ∀h v,fc h v (ko n x y)→WV P (.func (.func f) #[] #[]) [v] h fun u h'=>r.real h' u):sf P f (onQ k) where
 body:=hb
 right:=fun al r hg e=>by
  unfold onQ at e
  split at e
  case h_2=>cases e
  obtain⟨h1,h2⟩:=w _ _ _ _ _ _ (hg _ List.mem_cons_self) e
  refine⟨h1,fun h us R=>?_⟩
  obtain⟨v,rfl,p⟩:=Hr R
  exact h2 h v p
theorem vB {P:Program} {f:FuncId} {k:Bool→Nat→Bool→Nat→Option NR} (hb : ∃fn,P.funcs[f]?=some fn∧fn.body.isSome=true)
  (w : ∀n b x m c y r,(NV.long n b x).jm→(NV.long m c y).jm→k n x m y=some r→r.jm ∧ ∀h v v2,bj h v (sint n x)→bj h v2 (sint m y)→WV P (.func (.func f) #[] #[]) [v,v2] h fun u h'=>r.real h' u):sf P f (Fs k) where
 body:=hb
 right:=fun al r hg e=>by
  unfold Fs at e
  split at e
  case h_2=>cases e
  obtain⟨h1,h2⟩:=w _ _ _ _ _ _ _ (hg _ List.mem_cons_self) (hg _ (List.mem_cons_of_mem _ List.mem_cons_self)) e
  refine⟨h1,fun h us R=>?_⟩
  obtain⟨v,v2,rfl,p,q⟩:=OM R
  exact h2 h v v2 p q
theorem zi {P:Program} {f:FuncId} {k:Bool→Nat→Nat→Bool→Nat→Nat→Option NR} (hb : ∃fn,P.funcs[f]?=some fn∧fn.body.isSome=true)
  (w : ∀n b x c y m d u e z r,(NV.rat n b x c y).jm→(NV.rat m d u e z).jm→k n x y m u z=some r→r.jm ∧ ∀h v v2,fc h v (ko n x y)→fc h v2 (ko m u z)→WV P (.func (.func f) #[] #[]) [v,v2] h fun u h'=>r.real h' u):sf P f (HE k) where
 body:=hb
 right:=fun al r hg e=>by
  unfold HE at e
  split at e
  case h_2=>cases e
  obtain⟨h1,h2⟩:=w _ _ _ _ _ _ _ _ _ _ _ (hg _ List.mem_cons_self) (hg _ (List.mem_cons_of_mem _ List.mem_cons_self)) e
  refine⟨h1,fun h us R=>?_⟩
  obtain⟨v,v2,rfl,p,q⟩:=OM R
  exact h2 h v v2 p q
def Lr (z:Int):NR:=Int.rec (motive:=fun _=>NR) (fun n=>Nat.rec (motive:=fun _=>NR) (.val (.int .i64 (Int.ofNat 0))) (fun _ _=>.val (.int .i64 (Int.ofNat 1))) n) (fun _=>.val (.int .i64 (Int.negSucc 0))) z
theorem CR (x y:Int):Lr (Int.sub x y)=.val (KI (if x<y then -1 else if x=y then 0 else 1)):=by
 unfold Lr
 have e:Int.sub x y=x - y:=rfl
 rw[e]
 cases h:x - y with
 | ofNat n =>
  have h:x - y=(n:Int):=h
  cases n with
  | zero=>rw[if_neg (by omega),if_pos (by omega)];rfl
  | succ m=>rw[if_neg (by omega),if_neg (by omega)];rfl
 | negSucc n=>rw[if_pos (by omega)];rfl
theorem Lq (x:Int):Lr x=.val (KI (if x<0 then -1 else if x=0 then 0 else 1)):=by
 rw[←CR x 0]
 congr 1
 exact(Int.sub_zero x).symm
def TM (n d:Int):Option Value:=some (.tuple #[.int .i64 n,.int .i64 d])
def Vb (k:Int→Int→Option NR) (v:Value):Option NR:=match v with
 | .tuple cs=>match cs.toList with
  | [.int _ n,.int _ d]=>k n d
  | _=>none
 | _=>none
def Ft (k:Int→Option NR) (v:Value):Option NR:=match v with
 | .int .i64 n=>k n
 | _=>none
def TI:List NV→Option NR:=onV fun v=>bO (sE v TM) (Vb fun n d=>iB (okF n d) (iN d fun _ y=>some (yW n y)) none)
def OJ:List NV→Option NR:=onV (Ft fun n=>iB (F1 n) (some (yW n 1)) none)
def NL:List NV→Option NR:=onL fun n x=>some (.rat n x 1)
def OE:List NV→Option NR:=onQ fun n x y=>some (.val (wq (sI n x) (Int.ofNat y)))
def OD:List NV→Option NR:=onQ fun n x y=>some (.rat (iB n false (Nat.ble 1 x)) x y)
def OF:List NV→Option NR:=HE fun n x y m u z=>some (yW (Int.add (Int.mul (sI n x) (Int.ofNat z)) (Int.mul (sI m u) (Int.ofNat y))) (Nat.mul y z))
def Jt:List NV→Option NR:=HE fun n x y m u z=>some (yW (Int.sub (Int.mul (sI n x) (Int.ofNat z)) (Int.mul (sI m u) (Int.ofNat y))) (Nat.mul y z))
def Jr:List NV→Option NR:=HE fun n x y m u z=>some (yW (Int.mul (sI n x) (sI m u)) (Nat.mul y z))
def OH:List NV→Option NR:=HE fun n x y m u z=>iB (Nat.beq u 0) none (some (yW (Int.mul (sI n x) (sI m z)) (Nat.mul y u)))
def TK:List NV→Option NR:=HE fun n x y m u z=>some (Lr (Int.sub (Int.mul (sI n x) (Int.ofNat z)) (Int.mul (sI m u) (Int.ofNat y))))
def Ee:List NV→Option NR:=onV fun v=>bO (AZ v fun n=>some (.int .i64 n)) (Ft fun n=>some (uu n))
def NM:List NV→Option NR:=onV (Ft fun n=>iB (F1 n) (some (uu n)) none)
def Nw:List NV→Option NR:=onL fun n x=>iB (inF (sI n x)) (some (.val (.tuple #[.agg ⟨pO 8 (IW (sI n x)) []⟩,.int .i64 0]))) (some (.val (.tuple #[.agg ⟨pO 8 0 []⟩,.int .i64 6])))
def Nv:List NV→Option NR:=onL fun n x=>some (.long (iB n false (Nat.ble 1 x)) x)
def Nz:List NV→Option NR:=onL fun n x=>some (Lr (sI n x))
def NF:List NV→Option NR:=Fs fun n x m y=>some (uu (Int.add (sI n x) (sI m y)))
def IX:List NV→Option NR:=Fs fun n x m y=>some (uu (Int.sub (sI n x) (sI m y)))
def IQ:List NV→Option NR:=Fs fun n x m y=>some (uu (Int.mul (sI n x) (sI m y)))
def Tv:List NV→Option NR:=Fs fun n x m y=>some (Lr (Int.sub (sI n x) (sI m y)))
def Ei:List NV→Option NR:=Fs fun _ x _ y=>some (.long false (Nat.gcd x y))
def IU:List NV→Option NR:=Fs fun n x m y=>iB (Nat.beq y 0) none (some (NZ (Int.ediv (sI n x) (sI m y)) (Int.emod (sI n x) (sI m y))))
end
end Go.Id

namespace Go.Id
open Go
abbrev Num (f:FuncId) (sem:List NV→Option NR):Prop:=sf Proofs.Tryz.prog f sem
theorem mr {n m:Bool} {b x c y d u e z:Nat} (g:(NV.rat n b x c y).jm) (k:(NV.rat m d u e z).jm) :
  (ko n x y).num=sI n x∧((ko n x y).den:Int)=y∧(ko m u z).num=sI m u∧((ko m u z).den:Int)=z∧0<y*z:=by
 rw[(tZ g).1,(tZ g).2,(tZ k).1,(tZ k).2,iW,iW]
 exact⟨rfl,rfl,rfl,rfl,Nat.mul_pos (Nat.pos_of_ne_zero g.1.2.1) (Nat.pos_of_ne_zero k.1.2.1)⟩
theorem Mi:Num 117 OF:=zi ⟨_,Proofs.Tryz.func117,rfl⟩ fun n b x c y m d u e z r g k h0=>by
 cases h0
 obtain⟨e1,e2,e3,e4,p⟩:=mr g k
 refine⟨lj _ p,fun h v v2 hv hw=>(yP hv hw (nc g) (nc k) (by omega)).mono fun r h' q=>lh p ?_⟩
 have:=q.2
 rw[ua,e1,e2,e3,e4] at this
 rw[Int.natCast_mul];exact this
theorem HL:Num 160 Jt:=zi ⟨_,Proofs.Tryz.func160,rfl⟩ fun n b x c y m d u e z r g k h0=>by
 cases h0
 obtain⟨e1,e2,e3,e4,p⟩:=mr g k
 refine⟨lj _ p,fun h v v2 hv hw=>(LC hv hw (nc g) (nc k) (by omega)).mono fun r h' q=>lh p ?_⟩
 have:=q.2
 rw[OO,e1,e2,e3,e4] at this
 rw[Int.natCast_mul];exact this
theorem HK:Num 118 Jr:=zi ⟨_,Proofs.Tryz.func118,rfl⟩ fun n b x c y m d u e z r g k h0=>by
 cases h0
 obtain⟨e1,e2,e3,e4,p⟩:=mr g k
 refine⟨lj _ p,fun h v v2 hv hw=>(Lw hv hw (nc g) (nc k) (by omega)).mono fun r h' q=>lh p ?_⟩
 have:=q.2
 rw[Jw,e1,e2,e3,e4] at this
 rw[Int.natCast_mul];exact this
theorem Lm (n m:Bool) (x y z u:Nat):Rat.divInt (sint n x*z) ((y:Int)*sint m u)=Rat.divInt (sint n x*sint m z) ((y:Int)*u):=by
 cases m
 ·rfl
 ·show Rat.divInt (sint n x*z) ((y:Int) * -(u:Int))=Rat.divInt (sint n x * -(z:Int)) _
  rw[Int.mul_neg,Rat.divInt_neg',Int.mul_neg]
theorem Mj:Num 152 OH:=zi ⟨_,Proofs.Tryz.func152,rfl⟩ fun n b x c y m d u e z r g k h0=>by
 obtain⟨h1,h0⟩:=mf h0
 cases h0
 obtain⟨e1,e2,e3,e4,_⟩:=mr g k
 have u0:u≠0:=fun h=>by rw[h] at h1;cases h1
 have p:0<y*u:=Nat.mul_pos (Nat.pos_of_ne_zero g.1.2.1) (Nat.pos_of_ne_zero u0)
 have q0:ko m u z≠0:=fun h=>by
  rw[h,iW] at e3
  have:(sint m u).natAbs=0:=by rw[←e3];rfl
  rw[il] at this
  exact u0 this
 refine⟨lj _ p,fun h v v2 hv hw=>(OG hv hw (nc g) (nc k) (by omega) q0).mono fun r h' q=>lh p ?_⟩
 have:=q.2
 rw[Jx,e1,e2,e3,e4,iW,iW,Lm,←iW,←iW] at this
 rw[Int.natCast_mul];exact this
theorem Pd:Num 107 TK:=zi ⟨_,Proofs.Tryz.func107,rfl⟩ fun n b x c y m d u e z r g k h0=>by
 cases h0
 obtain⟨e1,e2,e3,e4,p⟩:=mr g k
 rw[CR]
 refine⟨rfl,fun h v v2 hv hw=>(CY hv hw (nc g) (nc k) (by omega)).mono fun r h' q=>q.2.trans ?_⟩
 rw[←DM,e1,e2,e3,e4];rfl
theorem Mg:Num 216 OD:=TN ⟨_,Proofs.Tryz.func216,rfl⟩ fun n b x c y r g h0=>by
 cases h0
 refine⟨⟨?_,g.1.2⟩,fun h v hv=>(yO hv).mono fun r h' q=>?_⟩
 ·cases n
  ·intro h1 h2
   rw[h2] at h1;cases h1
  ·intro h1;cases h1
 ·have : -ko n x y=ko (iB n false (Nat.ble 1 x)) x y:=by
   unfold ko
   rw[Rat.neg_divInt]
   congr 1
   cases n
   ·cases x with
    | zero=>rfl
    | succ x=>rfl
   ·exact Int.neg_neg _
  show fc h' r (ko _ x y)
  rw[←this];exact q.2
theorem Mh:Num 105 OE:=TN ⟨_,Proofs.Tryz.func105,rfl⟩ fun n b x c y r g h0=>by
 cases h0
 have y0:=g.1.2.1
 have e:wq (sI n x) (Int.ofNat y)=rL (ko n x y):=by
  rw[yy (by show(0:Int)<(y:Int);omega),iW];rfl
 rw[e]
 exact⟨mK _,fun h v hv=>(EV hv).mono fun r h' q=>q.2⟩
theorem Me:Num 153 NL:=JR ⟨_,Proofs.Tryz.func153,rfl⟩ fun n b x r g h0=>by
 cases h0
 exact⟨⟨g.1,by omega,Nat.gcd_one_right x⟩,fun h v hv=>(Eg hv).mono fun r h' q=>by
  show fc h' r (ko n x 1)
  rw[OS];exact q.2⟩
theorem zf {k:Int→Option NR} {v:Value} {r:NR} (h:Ft k v=some r) : ∃n,v=KI n∧k n=some r:=by
 unfold Ft at h
 split at h
 case h_2=>cases h
 exact⟨_,rfl,h⟩
theorem Mk:Num 116 OJ:=JQ ⟨_,Proofs.Tryz.func116,rfl⟩ fun v r h0=>by
 obtain⟨n,rfl,h0⟩:=zf h0
 obtain⟨h1,h0⟩:=cA h0
 cases h0
 refine⟨lj _ (by omega),fun h=>(yR n (ir h1)).mono fun r h' q=>lh (by omega) ?_⟩
 rw[show Rat.divInt n ((1:Nat):Int)=(n:Rat) from Rat.num_divInt_den (n:Rat)]
 exact q.2
theorem Pc:Num 114 TI:=JQ ⟨_,Proofs.Tryz.func114,rfl⟩ fun v r h0=>by
 cases hs:sE v TM with
 | none=>rw[hs] at h0;cases h0
 | some w =>
  rw[hs,aW] at h0
  obtain⟨p,hp,rfl,h1⟩:=mH hs
  cases h1
  change iB (okF (wdI p.1) (wdI p.2)) (iN (wdI p.2) fun _ y=>some (yW (wdI p.1) y)) none=some r at h0
  obtain⟨h1,h0⟩:=cA h0
  have ok:=Da h1
  rw[F3] at h0
  cases h0
  have d0:=ok.1
  have e:((wdI p.2).natAbs:Int)=wdI p.2:=by omega
  refine⟨lj _ (by omega),fun h=>(lg p.1 p.2 hp.1 hp.2).mono fun r h' q=>lh (by omega) ?_⟩
  rw[e]
  show uU h' r (rOf p).num ((rOf p).den:Int)
  rw[(dZ ok).1,(dZ ok).2]
  exact q.2
theorem Md:Num 201 NF:=vB ⟨_,Proofs.Tryz.func201,rfl⟩ fun n b x m c y r g k h0=>by
 cases h0
 refine⟨me _,fun h v v2 hv hw=>(qd hv hw (fh g) (fh k)).mono fun r h' q=>md ?_⟩
 rw[iW,iW];exact q.2
theorem HJ:Num 243 IX:=vB ⟨_,Proofs.Tryz.func243,rfl⟩ fun n b x m c y r g k h0=>by
 cases h0
 refine⟨me _,fun h v v2 hv hw=>(By hv hw (fh g) (fh k)).mono fun r h' q=>md ?_⟩
 rw[iW,iW];exact q.2
theorem HH:Num 67 IQ:=vB ⟨_,Proofs.Tryz.func67,rfl⟩ fun n b x m c y r g k h0=>by
 cases h0
 refine⟨me _,fun h v v2 hv hw=>(ec hv hw (vD g) (vD k)).mono fun r h' q=>md ?_⟩
 rw[iW,iW];exact q.2
theorem Pb:Num 196 Tv:=vB ⟨_,Proofs.Tryz.func196,rfl⟩ fun n b x m c y r g k h0=>by
 cases h0
 rw[CR,iW,iW]
 exact⟨rfl,fun h v v2 hv hw=>(C6 hv hw (fh g) (fh k)).mono fun r h' q=>q.2⟩
theorem Fy:Num 199 Ei:=vB ⟨_,Proofs.Tryz.func199,rfl⟩ fun n b x m c y r g k h0=>by
 cases h0
 refine⟨(fun h=>by cases h),fun h v v2 hv hw=>(oP hv hw (fh g) (fh k)).mono fun r h' q=>?_⟩
 have:=q.2
 unfold Int.gcd at this
 rw[il,il] at this
 exact this
theorem HI:Num 218 IU:=vB ⟨_,Proofs.Tryz.func218,rfl⟩ fun n b x m c y r g k h0=>by
 obtain⟨h1,h0⟩:=mf h0
 cases h0
 have y0:sint m y≠0:=fun h=>by
  have e:(sint m y).natAbs=0:=by rw[h];rfl
  rw[il] at e
  rw[e] at h1;cases h1
 refine⟨Le _ _,fun h v v2 hv hw=>(nQ hv hw (fh g) (fh k) y0).mono fun r h' q=>Ld ?_⟩
 rw[iW,iW];exact q.2
theorem Ma:Num 246 Nv:=JR ⟨_,Proofs.Tryz.func246,rfl⟩ fun n b x r g h0=>by
 cases h0
 refine⟨?_,fun h v hv=>(lX hv).mono fun r h' q=>?_⟩
 ·cases n
  ·intro h1 h2
   rw[h2] at h1;cases h1
  ·intro h1;cases h1
 ·have : -sint n x=sint (iB n false (Nat.ble 1 x)) x:=by
   cases n
   ·cases x with
    | zero=>rfl
    | succ x=>rfl
   ·exact Int.neg_neg _
  show bj h' r (sint _ x)
  rw[←this];exact q.2
theorem Mc:Num 115 Nz:=JR ⟨_,Proofs.Tryz.func115,rfl⟩ fun n b x r g h0=>by
 cases h0
 rw[Lq,iW]
 exact⟨rfl,fun h v hv=>(ub hv).mono fun r h' q=>q.2⟩
theorem Mf:Num 64 NM:=JQ ⟨_,Proofs.Tryz.func64,rfl⟩ fun v r h0=>by
 obtain⟨n,rfl,h0⟩:=zf h0
 obtain⟨h1,h0⟩:=cA h0
 cases h0
 exact⟨me _,fun h=>(qg n (ir h1)).mono fun r h' q=>md q.2⟩
theorem Fx:Num 66 Ee:=JQ ⟨_,Proofs.Tryz.func66,rfl⟩ fun v r h0=>by
 cases hs:AZ v (fun n=>some (.int .i64 n)) with
 | none=>rw[hs] at h0;cases h0
 | some w =>
  rw[hs,aW] at h0
  obtain⟨n,hn,rfl,h1⟩:=sC hs
  cases h1
  cases h0
  exact⟨me _,fun h=>(gT n hn).mono fun r h' q=>md q.2⟩
theorem Mb:Num 68 Nw:=JR ⟨_,Proofs.Tryz.func68,rfl⟩ fun n b x r g h0=>by
 have pl : ∀z,plain (wdV z)=true:=fun z=>by
  show(wdC z).toArray.all bJ=true
  rw[wdC,List.all_toArray,List.all_map]
  simp[bJ]
 have ew : ∀z,Value.agg ⟨pO 8 z []⟩=wdV z:=fun z=>by
  unfold wdV wdC
  rw[qO,List.append_nil]
 have key : ∀z e,(NR.val (.tuple #[.agg ⟨pO 8 z []⟩,KI e])).jm:=fun z e=>by
  rw[ew]
  show [wdV z,KI e].all plain=true
  rw[List.all_cons,pl];rfl
 change iB (inF (sI n x)) _ _=some r at h0
 rw[dW,HV,iW] at h0
 by_cases c:InW (sint n x)
 ·rw[decide_eq_true c] at h0
  cases h0
  refine⟨key _ _,fun h v hv=>(qc hv).mono fun r h' q=>q.2.trans ?_⟩
  rw[if_pos c,ew,yr c]
 ·rw[decide_eq_false c] at h0
  cases h0
  refine⟨key _ _,fun h v hv=>(qc hv).mono fun r h' q=>q.2.trans ?_⟩
  rw[if_neg c,ew]
end Go.Id

namespace Go.Id
open Go
noncomputable section
abbrev Tn:=FuncId×(List NK×(List NV→Option NR))
def Lh (l:List Tn) (f:FuncId):Option (List Value→IH→Option (Value×IH)):=List.rec (motive:=fun _=>Option (List Value→IH→Option (Value×IH))) none (fun p _ ih=>iB (Nat.beq f p.1) (some (HO p.2.1 p.2.2)) ih) l
theorem Ep : ∀{l:List Tn} {f:FuncId} {g:List Value→IH→Option (Value×IH)},Lh l f=some g → ∃p∈l,p.1=f∧g=HO p.2.1 p.2.2
 | [],_,_,h=>by cases h
 | p :: l,f,g,h=>by
  change iB (Nat.beq f p.1) (some (HO p.2.1 p.2.2)) (Lh l f)=some g at h
  rw[dW] at h
  cases hb:Nat.beq f p.1 with
  | true =>
   rw[hb] at h;cases h
   exact⟨p,List.mem_cons_self,(Nat.beq_eq.mp hb).symm,rfl⟩
  | false =>
   rw[hb] at h
   obtain⟨q,h1,h2⟩:=Ep h
   exact⟨q,List.mem_cons_of_mem _ h1,h2⟩
theorem Oj {P:Program} (S:Sound (E0 P)) {tb:List (FuncId×(List Value→Option Value))} (h : ∀p∈tb,uY P p.1 p.2) {tn:List Tn} (k : ∀p∈tn,sf P p.1 p.2.2):Sound (E2 P (CL tb) (Lh tn)) :=
 UM S (EG S h) fun f g hg=>by
  obtain⟨p,h1,h2,h3⟩:=Ep hg
  exact⟨p.2.1,p.2.2,h3,h2▸k p h1⟩
end
end Go.Id

namespace Go.Proofs.YtjhnilfelokpcaaGreat
open Go.ChangeShapes Go.WideShapes Go.ChangeAt Go.RowKit Go.Id
noncomputable def tn2:List Tn:=[(114,[.val],TI),(116,[.val],OJ),(153,[.long],NL),(105,[.rat],OE),(216,[.rat],OD),(117,[.rat,.rat],OF),(160,[.rat,.rat],Jt),(118,[.rat,.rat],Jr),(152,[.rat,.rat],OH),(107,[.rat,.rat],TK),(66,[.val],Ee),(64,[.val],NM),(68,[.long],Nw),(246,[.long],Nv),(115,[.long],Nz),(201,[.long,.long],NF),(243,[.long,.long],IX),(67,[.long,.long],IQ),(196,[.long,.long],Tv),(199,[.long,.long],Ei),(218,[.long,.long],IU)]
theorem WH : ∀p∈tn2,sf Tryz.prog p.1 p.2.2:=by
 intro p hp
 simp only[tn2,List.mem_cons,List.not_mem_nil,or_false] at hp
 rcases hp with rfl|rfl|rfl|rfl|rfl|rfl|rfl|rfl|rfl|rfl|rfl|rfl|rfl|rfl|rfl|rfl|rfl|rfl|rfl|rfl|rfl
 ·exact Pc
 ·exact Mk
 ·exact Me
 ·exact Mh
 ·exact Mg
 ·exact Mi
 ·exact HL
 ·exact HK
 ·exact Mj
 ·exact Pd
 ·exact Fx
 ·exact Mf
 ·exact Mb
 ·exact Ma
 ·exact Mc
 ·exact Md
 ·exact HJ
 ·exact HH
 ·exact Pb
 ·exact Fy
 ·exact HI
noncomputable def tb2:List (FuncId×(List Value→Option Value)):=[(197,Ps),(108,of2),(43,of2),(113,Iu),(36,XO)]
theorem Wt : ∀p∈tb2,uY Tryz.prog p.1 p.2:=by
 intro p hp
 simp only[tb2,List.mem_cons,List.not_mem_nil,or_false] at hp
 rcases hp with rfl|rfl|rfl|rfl|rfl
 ·exact qA Tryz.sound Tryz.func197 rfl NW
 ·exact qA Tryz.sound Tryz.func108 rfl UD
 ·exact qA Tryz.sound Tryz.func43 rfl NU
 ·exact qA Tryz.sound Tryz.func113 rfl K9
 ·exact qA Tryz.sound Tryz.func36 rfl RD
theorem RO:Sound (E2 Tryz.prog (CL tb2) (Lh tn2)):=Oj Tryz.sound Wt WH
end Go.Proofs.YtjhnilfelokpcaaGreat

namespace Go.Proofs.YtjhnilfelokpcaaGreat
open Go.ChangeShapes Go.WideShapes Go.ChangeAt Go.RowKit Go.Id
theorem Cz:KE (E2 Tryz.prog (CL tb2) (Lh tn2)) (4999+1) 28 (fun _=>none)=true:=by decide +kernel
noncomputable def tbO:FuncId→Option (List Value→Option Value):=CL [(28,okT)]
theorem RN:Sound (E1 Tryz.prog tbO):=EG Tryz.sound fun p hp=>by
 obtain rfl:=List.mem_singleton.1 hp
 exact Il (E:=E2 Tryz.prog (CL tb2) (Lh tn2)) RO Tryz.func28 rfl Cz
end Go.Proofs.YtjhnilfelokpcaaGreat
