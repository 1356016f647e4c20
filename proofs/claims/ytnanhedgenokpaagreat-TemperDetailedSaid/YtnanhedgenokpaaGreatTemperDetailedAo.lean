/-
  Regions whose order is open, where nothing that a load reads is changed between the places at which it may be carried out. Weakest preconditions over the ideal machine: what a code does with enough fuel; each step's continuation is kept closed (a congruence rule each), so that the simplifier carries out one step after the other.
-/
import Derived.Test.YtnanhedgenokpaaGreatTemperDetailedAn
set_option linter.unusedVariables false
set_option linter.unusedSimpArgs false
set_option linter.defProp false
set_option linter.deprecated false
namespace Go.Id
open Go
def calmOp (o:Oper):Bool:=kindOf o.op == .pure || kindOf o.op == .load
def calmBetween (ops:List Oper) (i p:Nat):Bool :=
 (List.range ops.length).all fun j => !(Nat.ble (min i p) j && Nat.blt j (max i p)) || (match ops[j]? with|some o=>calmOp o|none=>false)
def plan2 (ops:List Oper):List (Nat×List Nat):=(plan ops).filterMap fun e=>match e.2.filter (fun p => !calmBetween ops e.1 p) with
 | []=>none
 | l=>some (e.1,l)
theorem calm_step {E:Env} {call:CallV} {nt:Nat} {ops:List Oper} {o:Oper} {fr fr':Fr} {h h':IH} (hc:calmOp o=true) (hs:stepOp E call nt ops o fr h=some (fr',h')):h'=h:=by
 have hne:kindOf o.op≠.chain:=by
  intro hk;simp[calmOp,hk] at hc
 unfold stepOp at hs
 split at hs
 ·rw[runOp_plain hne] at hs
  split at hs
  ·rename_i v h1 hi
   obtain⟨f,_,e⟩:=Option.map_eq_some_iff.1 hs
   cases e
   simp only[calmOp,Bool.or_eq_true,beq_iff_eq] at hc
   rcases hc with hc|hc
   ·exact(iop_pure hc hi).1
   ·exact iop_load hc hi
  ·cases hs
 ·obtain⟨f,_,e⟩:=Option.map_eq_some_iff.1 hs
  cases e;rfl
 ·cases hs
theorem calm_range {E:Env} {call:CallV} {nt:Nat} {ops:List Oper} {fr:Fr} {h:IH} {tr:List (Fr×IH)} (ht:trace E call nt ops ops fr h=some tr) : ∀(d a:Nat) (x y:Fr×IH),(∀j,a≤j→j<a+d → ∃o,ops[j]?=some o∧calmOp o=true)→tr[a]?=some x→tr[a+d]?=some y→y.2=x.2
 | 0,a,x,y,_,hx,hy=>by rw[Nat.add_zero,hx] at hy;cases hy;rfl
 | d+1,a,x,y,hc,hx,hy=>by
  obtain⟨o,ho,hco⟩:=hc a (Nat.le_refl _) (by omega)
  obtain⟨_,_,h3⟩:=trace_spec ops fr h tr ht
  obtain⟨fr1,h1,fr2,h2,e1,e2,hs⟩:=h3 a o ho
  rw[hx] at e1;cases e1
  have e3:=calm_step hco hs
  have:=calm_range ht d (a+1) (fr2,h2) y (fun j a1 a2=>hc j (by omega) (by omega)) e2 (by rw[←hy];congr 1;omega)
  rw[this];exact e3
theorem calm_same {E:Env} {call:CallV} {nt:Nat} {ops:List Oper} {fr:Fr} {h:IH} {tr:List (Fr×IH)} (ht:trace E call nt ops ops fr h=some tr) {i p:Nat} (hc:calmBetween ops i p=true) (hi:i≤ops.length) (hp:p≤ops.length) {x y:Fr×IH} (hx:tr[i]?=some x) (hy:tr[p]?=some y):y.2=x.2:=by
 simp only[calmBetween,List.all_eq_true,List.mem_range,Bool.or_eq_true,Bool.not_eq_true',Bool.and_eq_false_iff] at hc
 have key : ∀j,min i p≤j→j<max i p → ∃o,ops[j]?=some o∧calmOp o=true:=by
  intro j a b
  rcases hc j (by omega) with hh|hh
  ·rcases hh with hh|hh
   ·rw[Bool.eq_false_iff] at hh;exact absurd (by rw[Nat.ble_eq];exact a) hh
   ·rw[Bool.eq_false_iff] at hh;exact absurd (by simp only[Nat.blt,Nat.ble_eq];omega) hh
  ·split at hh
   ·rename_i o ho;exact⟨o,ho,hh⟩
   ·cases hh
 rcases Nat.le_total i p with hip|hip
 ·exact calm_range ht (p - i) i x y (fun j a b=>key j (by omega) (by omega)) hx (by rw[←hy];congr 1;omega)
 ·exact(calm_range ht (i - p) p y x (fun j a b=>key j (by omega) (by omega)) hy (by rw[←hx];congr 1;omega)).symm
theorem plan_mem {ops:List Oper} {e:Nat×List Nat} (he:e∈plan ops):(∃o,ops[e.1]?=some o∧kindOf o.op=.load) ∧ ∀p∈e.2,p≤ops.length:=by
 simp only[plan,List.mem_filterMap,List.mem_range] at he
 obtain⟨i,hi,he⟩:=he
 split at he
 ·cases he
 ·rename_i o ho
  simp only[cond_eq_ite,beq_iff_eq] at he
  split at he
  ·rename_i hk
   cases he
   refine⟨⟨o,ho,hk⟩,fun p hp=>?_⟩
   have:=(List.mem_filter.1 hp).1
   rw[List.mem_append] at this
   rcases this with h1|h1
   ·have:=(List.mem_filter.1 h1).1;rw[List.mem_range] at this;omega
   ·simp at h1;omega
  ·cases he
theorem steady_of2 {E:Env} {call:CallV} {nt:Nat} {ops:List Oper} {fr:Fr} {h:IH} {tr:List (Fr×IH)} (ht:trace E call nt ops ops fr h=some tr) (hs:steady E.P ops tr (plan2 ops)=true):steady E.P ops tr (plan ops)=true:=by
 simp only[steady,List.all_eq_true] at hs ⊢
 intro e he
 obtain⟨⟨o,ho,hk⟩,hps⟩:=plan_mem he
 obtain⟨hlen,_,h3⟩:=trace_spec ops fr h tr ht
 obtain⟨fr1,h1,fr2,h2,e1,e2,hst⟩:=h3 e.1 o ho
 have hi:e.1<ops.length:=(List.getElem?_eq_some_iff.1 ho).1
 simp only[ho,e1]
 split
 ·rename_i hw
  rw[List.all_eq_true]
  intro p hp
  have hpl:=hps p hp
  obtain⟨⟨fp,hpp⟩,hp1⟩ : ∃y,tr[p]?=some y:=⟨tr[p]'(by omega),List.getElem?_eq_getElem (by omega)⟩
  cases hcb:calmBetween ops e.1 p with
  | true =>
   have hsame:=calm_same ht hcb (Nat.le_of_lt hi) hpl e1 hp1
   simp only at hsame
   simp only[hp1]
   subst hsame
   unfold stepOp at hst
   simp only[hw] at hst
   rw[runOp_plain (by rw[hk];simp)] at hst
   split at hst
   ·rename_i v h1' hv
    simp[steadyAt,hv,eqV_refl]
   ·cases hst
  | false =>
   have hmem : ∃l,(e.1,l)∈plan2 ops∧p∈l:=by
    refine⟨e.2.filter (fun p => !calmBetween ops e.1 p),?_,by simp[hp,hcb]⟩
    simp only[plan2,List.mem_filterMap]
    refine⟨e,he,?_⟩
    split
    ·rename_i hnil
     have:p∈e.2.filter (fun p => !calmBetween ops e.1 p):=by simp[hp,hcb]
     rw[hnil] at this;cases this
    ·rfl
   obtain⟨l,hl,hpl⟩:=hmem
   have:=hs _ hl
   simp only[ho,e1,hw,List.all_eq_true] at this
   exact this p hpl
 ·rfl
theorem runOps_trace {E:Env} {call:CallV} {nt:Nat} {ops:List Oper} : ∀(l:List Oper) (fr:Fr) (h:IH) (r:Fr×IH),runOps E call nt ops l fr h=some r → ∃tr,trace E call nt ops l fr h=some tr∧tr[l.length]?=some r
 | [],fr,h,r,hr=>by simp only[runOps] at hr;cases hr;exact⟨_,rfl,rfl⟩
 | o :: l,fr,h,r,hr=>by
  rw[runOps] at hr
  split at hr
  ·rename_i fr1 h1 hs
   obtain⟨tr,e1,e2⟩:=runOps_trace l fr1 h1 r hr
   exact⟨(fr,h) :: tr,by simp[trace,hs,e1],by simpa using e2⟩
  ·cases hr
def calmRegion (ops:List Oper):Bool:=orderOK ops && (plan2 ops).isEmpty
theorem runDrawn_calm {E:Env} {call:CallV} {nt:Nat} {ops:List Oper} {fr:Fr} {h:IH} {r:Fr×IH} (hc:calmRegion ops=true) (hr:runOps E call nt ops ops fr h=some r):runDrawn E call nt ops fr h=some r:=by
 simp only[calmRegion,Bool.and_eq_true,List.isEmpty_iff] at hc
 obtain⟨tr,e1,e2⟩:=runOps_trace ops fr h r hr
 have hs:steady E.P ops tr (plan ops)=true:=steady_of2 e1 (by rw[hc.2];rfl)
 simp[runDrawn,e1,hc.1,hs,e2]
end Go.Id

namespace Go.Id
open Go
def E0 (P:Program):Env:=⟨P,fun _ _=>none,fun _=>none⟩
def Tm {α:Type} (o:Nat→Option α) (Q:α→Prop):Prop:=∃a,(∃N,∀n,N≤n→o n=some a)∧Q a
theorem Tm.mono {α:Type} {o:Nat→Option α} {Q R:α→Prop} (h:Tm o Q) (k : ∀a,Q a→R a):Tm o R :=
 let ⟨a,h1,h2⟩:=h;⟨a,h1,k a h2⟩
theorem Tm.of {α:Type} {o:Nat→Option α} {Q:α→Prop} {a:α} (h : ∀n,o n=some a) (q:Q a):Tm o Q:=⟨a,⟨0,fun n _=>h n⟩,q⟩
theorem Tm.of2 {α β:Type} {o:Nat→Option (α×β)} {K:α→β→Prop} {a:α} {b:β} (k:K a b) (h : ∀n,o n=some (a,b)):Tm o fun p=>K p.1 p.2:=⟨(a,b),⟨0,fun n _=>h n⟩,k⟩
theorem Tm.bind {α β:Type} {o:Nat→Option α} {p:Nat→Option β} {Q:β→Prop} (f:α→Nat→Option β) (h:Tm o fun a=>Tm (f a) Q) (hp : ∀n a,o n=some a→p n=f a n):Tm p Q:=by
 obtain⟨a,⟨N,h1⟩,b,⟨M,h2⟩,q⟩:=h
 refine⟨b,⟨max N M,fun n hn=>?_⟩,q⟩
 rw[hp n a (h1 n (Nat.le_trans (Nat.le_max_left _ _) hn)),h2 n (Nat.le_trans (Nat.le_max_right _ _) hn)]
theorem Tm.congr {α:Type} {o p:Nat→Option α} {Q:α→Prop} (h:Tm o Q) (e : ∀n,p n=o n):Tm p Q :=
 let ⟨a,⟨N,h1⟩,h2⟩:=h;⟨a,⟨N,fun n hn=>(e n).trans (h1 n hn)⟩,h2⟩
def Ex {α:Type} (o:Option α) (K:α→Prop):Prop:=∃v,o=some v∧K v
@[congr] theorem Ex_congr {α:Type} {o o':Option α} {K:α→Prop} (h:o=o'):Ex o K=Ex o' K:=by rw[h]
@[simp] theorem Ex_some {α:Type} (v:α) (K:α→Prop):Ex (some v) K=K v:=by simp[Ex]
@[simp] theorem Ex_none {α:Type} (K:α→Prop):Ex none K=False:=by simp[Ex]
@[simp] theorem Ex_map {α β:Type} (o:Option α) (f:α→β) (K:β→Prop):Ex (o.map f) K=Ex o fun v=>K (f v):=by cases o<;>simp[Ex]
theorem Ex.mono {α:Type} {o:Option α} {K L:α→Prop} (h:Ex o K) (k : ∀v,K v→L v):Ex o L:=let ⟨v,a,b⟩:=h;⟨v,a,k v b⟩
def Br (b:Bool) (p q:Prop):Prop:=if b=true then p else q
@[congr] theorem Br_congr {b b':Bool} {p q:Prop} (h:b=b'):Br b p q=Br b' p q:=by rw[h]
@[simp] theorem Br_true (p q:Prop):Br true p q=p:=by simp[Br]
@[simp] theorem Br_false (p q:Prop):Br false p q=q:=by simp[Br]
theorem Br.intro {b:Bool} {p q:Prop} (h1:b=true→p) (h2:b=false→q):Br b p q:=by cases b<;>simp_all [Br]
def Lt (p:Prop):Prop:=p
@[congr] theorem Lt_congr {p:Prop}:Lt p=Lt p:=rfl
def WV (P:Program) (fv:Value) (vs:List Value) (h:IH) (K:Value→IH→Prop):Prop:=Tm (fun n=>callV (E0 P) n fv vs h) fun p=>K p.1 p.2
@[congr] theorem WV_congr {P:Program} {fv fv':Value} {vs vs':List Value} {h h':IH} {K:Value→IH→Prop} (a:fv=fv') (b:vs=vs') (c:h=h'):WV P fv vs h K=WV P fv' vs' h' K:=by rw[a,b,c]
theorem WV.mono {P:Program} {fv:Value} {vs:List Value} {h:IH} {K L:Value→IH→Prop} (w:WV P fv vs h K) (k : ∀v h',K v h'→L v h'):WV P fv vs h L:=Tm.mono w fun _ x=>k _ _ x
def wpOp (P:Program) (o:Op) (fr:Fr) (h:IH) (K:Value→IH→Prop):Prop :=
 match o with
 | .move x=>Ex (opd fr x) fun v=>K v h
 | .assign x=>Ex (opd fr x) fun v=>K v h
 | .pick c a b=>Ex (opd fr c) fun c=>Ex (opd fr a) fun a=>Ex (opd fr b) fun b=>c=.bool true∧K a h∨c=.bool false∧K b h
 | .alloc t=>Ex (zeroCellsT P t) fun z=>K (ptr (2*h.n) 0) (h.new (.cells z 0 none))
 | .box _ x=>Ex (opd fr x) fun v=>K (ptr (2*h.n) 0) (h.new (.cells v.cells.toList 0 none))
 | .load t a=>Ex (opd fr a) fun a=>Ex (load P h t a) fun v=>K v h
 | .store t a x=>Ex (opd fr a) fun a=>Ex (opd fr x) fun x=>Ex (store P h t a x) fun h=>K undef h
 | .binOp op t x y _=>Ex (opd fr x) fun a=>Ex (opd fr y) fun b=>Ex (binop P op t x y a b) fun v=>K v h
 | .fieldAddr t x f=>Ex (opd fr x) fun x=>Ex (fieldOf P t f) fun f=>Ex (asAddr x) fun a=>Ex (sizeT P f.type) fun n=>n≠0∧K (ptr a.1 (a.2+f.offset)) h
 | .indexAddr t x i=>Ex (opd fr x) fun x=>Ex (opd fr i) fun i=>Ex (indexAddr P t x i) fun v=>K v h
 | .extract x i=>Ex (opd fr x) fun x=>match x with
  | .tuple vs=>Ex vs[i]? fun v=>K v h
  | _=>False
 | .makeFunc fn first cap=>Ex (opds fr first.toList) fun a=>Ex (opds fr cap.toList) fun b=>match fn with
  | .func f=>K (.func (.func f) a.toArray b.toArray) h
  | _=>False
 | .call c=>match c.callee with
  | .value f=>Ex (opd fr f) fun fv=>Ex (opds fr c.args.toList) fun vs=>WV P fv vs h K
  | .builtin b=>Ex (opds fr c.args.toList) fun vs=>Ex (builtin P h b c.argTypes vs) fun r=>K r.1 r.2
  | _=>False
 | o=>Ex (iop P fr o h) fun r=>K r.1 r.2
theorem wpOp_sound {P:Program} {o:Op} {fr:Fr} {h:IH} {K:Value→IH→Prop} (w:wpOp P o fr h K):Tm (fun n=>runOp (E0 P) (callV (E0 P) n) fr o h) fun p=>K p.1 p.2:=by
 unfold wpOp at w
 split at w
 case h_13 c =>
  split at w
  ·obtain⟨fv,h1,vs,h2,k⟩:=w
   rename_i f hc
   refine Tm.congr k fun n=>?_
   simp[runOp,hc,h1,h2]
  ·obtain⟨vs,h1,r,h2,k⟩:=w
   rename_i b hc
   refine Tm.of (a:=r) (fun n=>?_) k
   simp[runOp,hc,iop,h1,h2,E0]
  ·exact w.elim
 case h_3 =>
  obtain⟨c,h1,a,h2,b,h3,⟨rfl,k⟩|⟨rfl,k⟩⟩:=w
  ·exact Tm.of (a:=(a,h)) (fun n=>by simp[runOp,iop,h1,h2]) k
  ·exact Tm.of (a:=(b,h)) (fun n=>by simp[runOp,iop,h1,h3]) k
 case h_11 =>
  obtain⟨x,h1,k⟩:=w
  split at k
  ·obtain⟨v,h2,k⟩:=k
   exact Tm.of (a:=(v,h)) (fun n=>by simp[runOp,iop,h1,h2]) k
  ·exact k.elim
 case h_12 =>
  obtain⟨x,h1,y,h2,k⟩:=w
  split at k
  ·exact Tm.of2 k fun n=>by simp[runOp,iop,h1,h2]
  ·exact k.elim
 case h_9 =>
  obtain⟨x,h1,f,h2,⟨b,o⟩,h3,n,h4,h5,k⟩:=w
  refine Tm.of2 k fun m=>?_
  have h6:(n == 0)=false:=by simpa using h5
  simp[runOp,iop,h1,h2,h3,h4,E0,h6]
 case h_14 =>
  obtain⟨r,h1,k⟩:=w
  refine Tm.of2 (a:=r.1) (b:=r.2) k fun n=>?_
  unfold runOp
  split
  ·simp_all
  ·exact h1
 all_goals
  simp only[Ex] at w
  first
   | (obtain⟨a,h1,b,h2,c,h3,k⟩:=w;exact Tm.of2 k fun n=>by simp[runOp,iop,h1,h2,h3,E0])
   | (obtain⟨a,h1,b,h2,k⟩:=w;exact Tm.of2 k fun n=>by simp[runOp,iop,h1,h2,E0])
   | (obtain⟨a,h1,k⟩:=w;exact Tm.of2 k fun n=>by simp[runOp,iop,h1,E0])
def wpPut (nt:Nat) (fr:Fr) (dst:Option Tmp) (v:Value) (K:Fr→Prop):Prop :=
 match dst with
 | none=>K fr
 | some d=>Br (Nat.blt d nt) (K ((d,v) :: fr)) False
theorem wpPut_sound {nt:Nat} {fr:Fr} {dst:Option Tmp} {v:Value} {K:Fr→Prop} (w:wpPut nt fr dst v K) : ∃fr',fput nt fr dst v=some fr'∧K fr':=by
 unfold wpPut at w
 split at w
 ·exact⟨_,rfl,w⟩
 ·rename_i d
  simp only[fput]
  cases hb:Nat.blt d nt<;>simp[hb] at w ⊢
  exact w
def wpOps (P:Program) (nt:Nat) (all:List Oper):List Oper→Fr→IH→(Fr→IH→Prop)→Prop
 | [],fr,h,K=>K fr h
 | o :: l,fr,h,K=>match o.guard with
  | none=>wpOp P o.op fr h fun v h=>wpPut nt fr o.dst v fun fr=>wpOps P nt all l fr h K
  | some (j,want)=>Ex ((all[j]?).bind (·.dst)) fun d=>Ex (fget fr d) fun b=>match b with
   | .bool b=>Br (b == want) (wpOp P o.op fr h fun v h=>wpPut nt fr o.dst v fun fr=>wpOps P nt all l fr h K) (wpPut nt fr o.dst undef fun fr=>wpOps P nt all l fr h K)
   | .tuple _=>wpPut nt fr o.dst undef fun fr=>wpOps P nt all l fr h K
   | _=>False
theorem wpOp_step {P:Program} {nt:Nat} {all:List Oper} {o:Oper} {fr:Fr} {h:IH} {K:Fr→IH→Prop} (hw:wantedI all o fr=some true)
  (w:wpOp P o.op fr h fun v h=>wpPut nt fr o.dst v fun fr=>K fr h):Tm (fun n=>stepOp (E0 P) (callV (E0 P) n) nt all o fr h) fun p=>K p.1 p.2:=by
 obtain⟨⟨v,h1⟩,⟨N,hN⟩,k⟩:=wpOp_sound w
 obtain⟨fr',hp,k⟩:=wpPut_sound k
 exact⟨(fr',h1),⟨N,fun n hn=>by simp[stepOp,hw,hN n hn,hp]⟩,k⟩
theorem wpOps_sound {P:Program} {nt:Nat} {all:List Oper} : ∀{l:List Oper} {fr:Fr} {h:IH} {K:Fr→IH→Prop},wpOps P nt all l fr h K →
  Tm (fun n=>runOps (E0 P) (callV (E0 P) n) nt all l fr h) fun p=>K p.1 p.2
 | [],fr,h,K,w=>Tm.of (a:=(fr,h)) (fun _=>rfl) w
 | o :: l,fr,h,K,w=>by
  have fin (s:Tm (fun n=>stepOp (E0 P) (callV (E0 P) n) nt all o fr h) fun p=>wpOps P nt all l p.1 p.2 K):Tm (fun n=>runOps (E0 P) (callV (E0 P) n) nt all (o :: l) fr h) fun p=>K p.1 p.2 :=
   Tm.bind (fun p n=>runOps (E0 P) (callV (E0 P) n) nt all l p.1 p.2) (s.mono fun _ x=>wpOps_sound x) fun n a ha=>by simp[runOps,ha]
  unfold wpOps at w
  split at w
  ·rename_i hg
   exact fin (wpOp_step (by simp[wantedI,hg]) w)
  ·rename_i j want hg
   obtain⟨d,h1,b,h2,w⟩:=w
   split at w
   ·rename_i b
    unfold Br at w
    split at w
    ·rename_i hb
     exact fin (wpOp_step (by simp[wantedI,hg,h1,h2,eq_of_beq hb]) w)
    ·rename_i hb
     obtain⟨fr',hp,k⟩:=wpPut_sound w
     refine fin (Tm.of (a:=(fr',h)) (fun n=>?_) k)
     have hb':(b == want)=false:=by simpa using hb
     simp[stepOp,wantedI,hg,h1,h2,hb',hp]
   ·obtain⟨fr',hp,k⟩:=wpPut_sound w
    refine fin (Tm.of (a:=(fr',h)) (fun n=>?_) k)
    simp[stepOp,wantedI,hg,h1,h2,hp]
   ·exact w.elim
def wpTrace (P:Program) (nt:Nat) (all:List Oper):List Oper→Fr→IH→List (Fr×IH)→(List (Fr×IH)→Prop)→Prop
 | [],fr,h,tr,K=>K (tr ++ [(fr,h)])
 | o :: l,fr,h,tr,K=>match o.guard with
  | none=>wpOp P o.op fr h fun v h1=>wpPut nt fr o.dst v fun fr1=>wpTrace P nt all l fr1 h1 (tr ++ [(fr,h)]) K
  | some (j,want)=>Ex ((all[j]?).bind (·.dst)) fun d=>Ex (fget fr d) fun b=>match b with
   | .bool b=>Br (b == want) (wpOp P o.op fr h fun v h1=>wpPut nt fr o.dst v fun fr1=>wpTrace P nt all l fr1 h1 (tr ++ [(fr,h)]) K)
     (wpPut nt fr o.dst undef fun fr1=>wpTrace P nt all l fr1 h (tr ++ [(fr,h)]) K)
   | .tuple _=>wpPut nt fr o.dst undef fun fr1=>wpTrace P nt all l fr1 h (tr ++ [(fr,h)]) K
   | _=>False
theorem wpTrace_sound {P:Program} {nt:Nat} {all:List Oper} : ∀{l:List Oper} {fr:Fr} {h:IH} {tr:List (Fr×IH)} {K:List (Fr×IH)→Prop},wpTrace P nt all l fr h tr K →
  Tm (fun n=>trace (E0 P) (callV (E0 P) n) nt all l fr h) fun t=>K (tr ++ t)
 | [],fr,h,tr,K,w=>Tm.of (a:=[(fr,h)]) (fun _=>rfl) w
 | o :: l,fr,h,tr,K,w=>by
  have fin (s:Tm (fun n=>stepOp (E0 P) (callV (E0 P) n) nt all o fr h) fun p=>wpTrace P nt all l p.1 p.2 (tr ++ [(fr,h)]) K):Tm (fun n=>trace (E0 P) (callV (E0 P) n) nt all (o :: l) fr h) fun t=>K (tr ++ t):=by
   refine Tm.bind (fun p n=>(trace (E0 P) (callV (E0 P) n) nt all l p.1 p.2).map ((fr,h) :: ·)) (s.mono fun p x=>?_) fun n a ha=>by simp[trace,ha]
   obtain⟨t,⟨N,hN⟩,k⟩:=wpTrace_sound x
   exact⟨(fr,h) :: t,⟨N,fun n hn=>by simp[hN n hn]⟩,by simpa using k⟩
  unfold wpTrace at w
  split at w
  ·rename_i hg
   exact fin (wpOp_step (K:=fun fr1 h1=>wpTrace P nt all l fr1 h1 (tr ++ [(fr,h)]) K) (by simp[wantedI,hg]) w)
  ·rename_i j want hg
   obtain⟨d,h1,b,h2,w⟩:=w
   split at w
   ·rename_i b
    unfold Br at w
    split at w
    ·rename_i hb
     exact fin (wpOp_step (K:=fun fr1 h1=>wpTrace P nt all l fr1 h1 (tr ++ [(fr,h)]) K) (by simp[wantedI,hg,h1,h2,eq_of_beq hb]) w)
    ·rename_i hb
     obtain⟨fr',hp,k⟩:=wpPut_sound w
     refine fin (Tm.of (a:=(fr',h)) (fun n=>?_) k)
     have hb':(b == want)=false:=by simpa using hb
     simp[stepOp,wantedI,hg,h1,h2,hb',hp]
   ·obtain⟨fr',hp,k⟩:=wpPut_sound w
    refine fin (Tm.of (a:=(fr',h)) (fun n=>?_) k)
    simp[stepOp,wantedI,hg,h1,h2,hp]
   ·exact w.elim
def wpSteady (P:Program) (ops:List Oper) (tr:List (Fr×IH)):List (Nat×List Nat)→Prop
 | []=>True
 | e :: l=>(match ops[e.1]?,tr[e.1]? with
  | some o,some (fr,h)=>match wantedI ops o fr with
   | some true => ∀p∈e.2,match tr[p]? with
    | some (_,h')=>steadyAt P fr o.op h h'=true
    | none=>False
   | _=>True
  | _,_=>False)∧wpSteady P ops tr l
theorem wpSteady_sound {P:Program} {ops:List Oper} {tr:List (Fr×IH)} : ∀{l:List (Nat×List Nat)},wpSteady P ops tr l→steady P ops tr l=true
 | [],_=>rfl
 | e :: l,w=>by
  unfold wpSteady at w
  obtain⟨w1,w2⟩:=w
  have:=wpSteady_sound w2
  simp only[steady,List.all_cons,Bool.and_eq_true] at this ⊢
  refine⟨?_,this⟩
  split at w1
  ·rename_i o fr h ho ht
   simp only[ho,ht]
   split at w1
   ·rename_i hw
    simp only[hw,List.all_eq_true]
    intro p hp
    have:=w1 p hp
    split at this
    ·rename_i h' hh;simp[hh,this]
    ·exact this.elim
   ·rename_i hne
    split
    ·rename_i heq;exact absurd heq hne
    ·rfl
  ·exact w1.elim
def wpLast (tr:List (Fr×IH)) (n:Nat) (K:Fr→IH→Prop):Prop:=Ex tr[n]? fun p=>K p.1 p.2
def WLoop (P:Program) (fn:FuncId) (nt:Nat) (rd:Option Nat) (b:Code) (fr:Fr) (h:IH) (Q:IExit→Fr→IH→Prop):Prop :=
 Tm (fun n=>evC (E0 P) (callV (E0 P) n) fn nt rd n (.loop b) fr h) fun p=>Q p.1 p.2.1 p.2.2
@[congr] theorem WLoop_congr {P:Program} {fn:FuncId} {nt:Nat} {rd:Option Nat} {b:Code} {fr fr':Fr} {h h':IH} {Q:IExit→Fr→IH→Prop} (e1:fr=fr') (e2:h=h'):WLoop P fn nt rd b fr h Q=WLoop P fn nt rd b fr' h' Q:=by rw[e1,e2]
def WRange (P:Program) (fn:FuncId) (nt:Nat) (rd:Option Nat) (f:Operand) (ps:Array Tmp) (a b:Code) (fr:Fr) (h:IH) (Q:IExit→Fr→IH→Prop):Prop :=
 Tm (fun n=>rangeFn (E0 P) (callV (E0 P) n) fn nt rd f ps.toList a b fr h) fun p=>Q p.1 p.2.1 p.2.2
@[congr] theorem WRange_congr {P:Program} {fn:FuncId} {nt:Nat} {rd:Option Nat} {f:Operand} {ps:Array Tmp} {a b:Code} {fr fr':Fr} {h h':IH} {Q:IExit→Fr→IH→Prop} (e1:fr=fr') (e2:h=h') :
  WRange P fn nt rd f ps a b fr h Q=WRange P fn nt rd f ps a b fr' h' Q:=by rw[e1,e2]
def wpDrawn (P:Program) (nt:Nat) (ops:List Oper) (fr:Fr) (h:IH) (K:Fr→IH→Prop):Prop :=
 orderOK ops=true∧wpTrace P nt ops ops fr h [] fun tr=>wpSteady P ops tr (plan2 ops)∧wpLast tr ops.length K
def wpC (P:Program) (fn:FuncId) (nt:Nat) (rd:Option Nat):Code→Fr→IH→(IExit→Fr→IH→Prop)→Prop
 | .skip,fr,h,Q=>Q .normal fr h
 | .label _,fr,h,Q=>Q .normal fr h
 | .region _ ops draw,fr,h,Q=>match draw with
  | false=>wpOps P nt ops.toList ops.toList fr h (Q .normal)
  | true=>(calmRegion ops.toList=true→wpOps P nt ops.toList ops.toList fr h (Q .normal))∧(calmRegion ops.toList=false→wpDrawn P nt ops.toList fr h (Q .normal))
 | .seq a b,fr,h,Q=>wpC P fn nt rd a fr h fun e fr h=>match e with
  | .normal=>wpC P fn nt rd b fr h Q
  | .exit i=>Q (.exit i) fr h
  | .ret=>Q .ret fr h
 | .cond c a b,fr,h,Q=>Ex (opd fr c) fun c=>match c with
  | .bool c=>Br c (wpC P fn nt rd a fr h Q) (wpC P fn nt rd b fr h Q)
  | _=>False
 | .block id b,fr,h,Q=>wpC P fn nt rd b fr h fun e fr h=>match e with
  | .exit i=>Br (i == id) (Q .normal fr h) (Q (.exit i) fr h)
  | .normal=>Q .normal fr h
  | .ret=>Q .ret fr h
 | .loop b,fr,h,Q=>WLoop P fn nt rd b fr h Q
 | .scope b,fr,h,Q=>wpC P fn nt rd b fr h Q
 | .rangeFunc f ps a b,fr,h,Q=>WRange P fn nt rd f ps a b fr h Q
 | .exit i,fr,h,Q=>Q (.exit i) fr h
 | .ret,fr,h,Q=>Q .ret fr h
 | .goto _,_,_,_=>False
 | .refuse _,_,_,_=>False
abbrev TmC (P:Program) (fn:FuncId) (nt:Nat) (rd:Option Nat) (c:Code) (fr:Fr) (h:IH) (Q:IExit→Fr→IH→Prop):Prop :=
 Tm (fun n=>evC (E0 P) (callV (E0 P) n) fn nt rd n c fr h) fun p=>Q p.1 p.2.1 p.2.2
theorem headFr0 (P:Program) (fn:FuncId) (id:Nat) (fr:Fr):headFr (E0 P) fn id fr=fr:=rfl
theorem wpC_sound {P:Program} {fn:FuncId} {nt:Nat} {rd:Option Nat} : ∀{c:Code} {fr:Fr} {h:IH} {Q:IExit→Fr→IH→Prop},wpC P fn nt rd c fr h Q→TmC P fn nt rd c fr h Q
 | .skip,fr,h,Q,w=>Tm.of (a:=(.normal,fr,h)) (fun _=>rfl) w
 | .label _,fr,h,Q,w=>Tm.of (a:=(.normal,fr,h)) (fun _=>rfl) w
 | .region id ops draw,fr,h,Q,w=>by
  cases draw with
  | false =>
   obtain⟨p,⟨N,h1⟩,k⟩:=wpOps_sound w
   exact⟨(.normal,p.1,p.2),⟨N,fun n hn=>by have:=h1 n hn;simp[evC,headFr0,this]⟩,k⟩
  | true =>
   cases hc:calmRegion ops.toList with
   | true =>
    obtain⟨p,⟨N,h1⟩,k⟩:=wpOps_sound (w.1 hc)
    exact⟨(.normal,p.1,p.2),⟨N,fun n hn=>by have:=runDrawn_calm hc (h1 n hn);simp[evC,headFr0,this]⟩,k⟩
   | false =>
    obtain⟨ho,w⟩:=w.2 hc
    obtain⟨tr,⟨N,h1⟩,hs,p,hp,k⟩:=wpTrace_sound w
    refine⟨(.normal,p.1,p.2),⟨N,fun n hn=>?_⟩,k⟩
    have h2:=h1 n hn
    simp only[List.nil_append,Array.length_toList] at hs hp
    simp only at h2
    have hs2:=steady_of2 h2 (wpSteady_sound hs)
    simp[evC,headFr0,runDrawn,h2,ho,show(E0 P).P=P from rfl,show steady P ops.toList tr (plan ops.toList)=true from hs2,hp]
 | .seq a b,fr,h,Q,w=>by
  have w1:=wpC_sound (c:=a) w
  obtain⟨⟨e,fr1,h1⟩,⟨N,hN⟩,k⟩:=w1
  cases e with
  | normal =>
   obtain⟨r,⟨M,hM⟩,k⟩:=wpC_sound (c:=b) k
   refine⟨r,⟨max N M,fun n hn=>?_⟩,k⟩
   have e1:=hN n (Nat.le_trans (Nat.le_max_left _ _) hn)
   have e2:=hM n (Nat.le_trans (Nat.le_max_right _ _) hn)
   simp[evC,e1,e2]
  | exit i=>exact⟨(.exit i,fr1,h1),⟨N,fun n hn=>by have:=hN n hn;simp[evC,this]⟩,k⟩
  | ret=>exact⟨(.ret,fr1,h1),⟨N,fun n hn=>by have:=hN n hn;simp[evC,this]⟩,k⟩
 | .cond c a b,fr,h,Q,w=>by
  obtain⟨v,hv,w⟩:=w
  split at w
  ·rename_i c
   cases c with
   | true =>
    obtain⟨r,⟨M,hM⟩,k⟩:=wpC_sound (c:=a) (by simpa using w)
    exact⟨r,⟨M,fun n hn=>by have:=hM n hn;simp[evC,hv,this]⟩,k⟩
   | false =>
    obtain⟨r,⟨M,hM⟩,k⟩:=wpC_sound (c:=b) (by simpa using w)
    exact⟨r,⟨M,fun n hn=>by have:=hM n hn;simp[evC,hv,this]⟩,k⟩
  ·exact w.elim
 | .block id b,fr,h,Q,w=>by
  obtain⟨⟨e,fr1,h1⟩,⟨N,hN⟩,k⟩:=wpC_sound (c:=b) w
  cases e with
  | normal=>exact⟨(.normal,fr1,h1),⟨N,fun n hn=>by have:=hN n hn;simp[evC,this]⟩,k⟩
  | ret=>exact⟨(.ret,fr1,h1),⟨N,fun n hn=>by have:=hN n hn;simp[evC,this]⟩,k⟩
  | exit i =>
   cases hi:(i == id) with
   | true=>exact⟨(.normal,fr1,h1),⟨N,fun n hn=>by have:=hN n hn;simp[evC,this,hi]⟩,by simpa [hi] using k⟩
   | false=>exact⟨(.exit i,fr1,h1),⟨N,fun n hn=>by have:=hN n hn;simp[evC,this,hi]⟩,by simpa [hi] using k⟩
 | .loop b,fr,h,Q,w=>w
 | .scope b,fr,h,Q,w=>by
  obtain⟨r,⟨M,hM⟩,k⟩:=wpC_sound (c:=b) w
  exact⟨r,⟨M,fun n hn=>by have:=hM n hn;simp[evC,this]⟩,k⟩
 | .rangeFunc f ps a b,fr,h,Q,w=>Tm.congr w fun n=>by simp[evC]
 | .exit i,fr,h,Q,w=>Tm.of (a:=(.exit i,fr,h)) (fun _=>rfl) w
 | .ret,fr,h,Q,w=>Tm.of (a:=(.ret,fr,h)) (fun _=>rfl) w
 | .goto _,_,_,_,w=>w.elim
 | .refuse _,_,_,_,w=>w.elim
end Go.Id
