/-
  Regions whose order is open, where nothing that a load reads is changed between the places
-/
import Derived.Test.YtnnmjocmapilaaaGreatOutlierRisesAg
import Derived.IntWalk
set_option linter.unusedVariables false
set_option linter.unusedSimpArgs false
set_option linter.defProp false
set_option linter.deprecated false
namespace Go.Id
open Go
def xr (o:Oper):Bool:=cL o.op == .pure || cL o.op == .load
def jx (ops:List Oper) (i p:Nat):Bool :=
 (List.range ops.length).all fun j => !(Nat.ble (min i p) j && Nat.blt j (max i p)) || (match ops[j]? with|some o=>xr o|none=>false)
def CK (ops:List Oper):List (Nat×List Nat):=(yJ ops).filterMap fun e=>match e.2.filter (fun p => !jx ops e.1 p) with
 | []=>none
 | l=>some (e.1,l)
variable {h:IH}{nt:Nat}{ops:List Oper}{call:bU}{fr:Fr}{E:Env}
def PE {o:Oper} {fr':Fr} {h':IH} (hc:xr o=true) (hs:de E call nt ops o fr h=some (fr',h')):h'=h:=by
 have hne:cL o.op≠.chain:=by
  intro hk;simp[xr,hk] at hc
 unfold de at hs
 split at hs
 ·rw[fc hne] at hs
  split at hs
  ·rename_i v h1 hi
   obtain⟨f,_,e⟩:=Option.map_eq_some_iff.1 hs
   cases e
   simp only[xr,Bool.or_eq_true,beq_iff_eq] at hc
   rcases hc with hc|hc
   ·exact(AR hc hi).1
   ·exact AS hc hi
  ·cases hs
 ·obtain⟨f,_,e⟩:=Option.map_eq_some_iff.1 hs
  cases e;rfl
 ·cases hs
variable {tr:List (Fr×IH)}
def uE (ht:trace E call nt ops ops fr h=some tr) : ∀(d a:Nat) (x y:Fr×IH),(∀j,a≤j→j<a+d → ∃o,ops[j]?=some o∧xr o=true)→tr[a]?=some x→tr[a+d]?=some y→y.2=x.2
 | 0,a,x,y,_,hx,hy=>by rw[Nat.add_zero,hx] at hy;cases hy;rfl
 | d+1,a,x,y,hc,hx,hy=>by
  obtain⟨o,ho,hco⟩:=hc a (Nat.le_refl _) (by omega)
  obtain⟨_,_,h3⟩:=pg ops fr h tr ht
  obtain⟨fr1,h1,fr2,h2,e1,e2,hs⟩:=h3 a o ho
  rw[hx] at e1;cases e1
  have e3:=PE hco hs
  have:=uE ht d (a+1) (fr2,h2) y (fun j a1 a2=>hc j (by omega) (by omega)) e2 (by rw[←hy];congr 1;omega)
  rw[this];exact e3
def PF (ht:trace E call nt ops ops fr h=some tr) {i p:Nat} (hc:jx ops i p=true) (hi:i≤ops.length) (hp:p≤ops.length) {x y:Fr×IH} (hx:tr[i]?=some x) (hy:tr[p]?=some y):y.2=x.2:=by
 simp only[jx,List.all_eq_true,List.mem_range,Bool.or_eq_true,Bool.not_eq_true',Bool.and_eq_false_iff] at hc
 have key : ∀j,min i p≤j→j<max i p → ∃o,ops[j]?=some o∧xr o=true:=by
  intro j a b
  rcases hc j (by omega) with hh|hh
  ·rcases hh with hh|hh
   ·rw[Bool.eq_false_iff] at hh;exact absurd (by rw[Nat.ble_eq];exact a) hh
   ·rw[Bool.eq_false_iff] at hh;exact absurd (by simp only[Nat.blt,Nat.ble_eq];omega) hh
  ·split at hh
   ·rename_i o ho;exact⟨o,ho,hh⟩
   ·cases hh
 rcases Nat.le_total i p with hip|hip
 ·exact uE ht (p - i) i x y (fun j a b=>key j (by omega) (by omega)) hx (by rw[←hy];congr 1;omega)
 ·exact(uE ht (i - p) p y x (fun j a b=>key j (by omega) (by omega)) hy (by rw[←hx];congr 1;omega)).symm
def Rk {e:Nat×List Nat} (he:e∈yJ ops):(∃o,ops[e.1]?=some o∧cL o.op=.load) ∧ ∀p∈e.2,p≤ops.length:=by
 simp only[yJ,List.mem_filterMap,List.mem_range] at he
 obtain⟨i,hi,he⟩:=he
 split at he
 ·cases he
 ·rename_i o ho
  simp only[cond_eq_ite,beq_iff_eq] at he
  split at he
  ·rename_i hk
   cases he
   refine⟨⟨o,ho,hk⟩,fun p hp=>?_⟩
   have:=(List.mem_filter.1 hp).1
   rw[List.mem_append] at this
   rcases this with h1|h1
   ·have:=(List.mem_filter.1 h1).1;rw[List.mem_range] at this;omega
   ·simp at h1;omega
  ·cases he
def zV (ht:trace E call nt ops ops fr h=some tr) (hs:steady E.P ops tr (CK ops)=true):steady E.P ops tr (yJ ops)=true:=by
 simp only[steady,List.all_eq_true] at hs ⊢
 intro e he
 obtain⟨⟨o,ho,hk⟩,hps⟩:=Rk he
 obtain⟨hlen,_,h3⟩:=pg ops fr h tr ht
 obtain⟨fr1,h1,fr2,h2,e1,e2,hst⟩:=h3 e.1 o ho
 have hi:e.1<ops.length:=(List.getElem?_eq_some_iff.1 ho).1
 simp only[ho,e1]
 split
 ·rename_i hw
  rw[List.all_eq_true]
  intro p hp
  have hpl:=hps p hp
  obtain⟨⟨fp,hpp⟩,hp1⟩ : ∃y,tr[p]?=some y:=⟨tr[p]'(by omega),List.getElem?_eq_getElem (by omega)⟩
  cases hcb:jx ops e.1 p with
  | true =>
   have eo:=PF ht hcb (Nat.le_of_lt hi) hpl e1 hp1
   simp only at eo
   simp only[hp1]
   subst eo
   unfold de at hst
   simp only[hw] at hst
   rw[fc (by rw[hk];simp)] at hst
   split at hst
   ·rename_i v h1' hv
    simp[gP,hv,Il]
   ·cases hst
  | false =>
   have Kg : ∃l,(e.1,l)∈CK ops∧p∈l:=by
    refine⟨e.2.filter (fun p => !jx ops e.1 p),?_,by simp[hp,hcb]⟩
    simp only[CK,List.mem_filterMap]
    refine⟨e,he,?_⟩
    split
    ·rename_i YK
     have:p∈e.2.filter (fun p => !jx ops e.1 p):=by simp[hp,hcb]
     rw[YK] at this;cases this
    ·rfl
   obtain⟨l,hl,hpl⟩:=Kg
   have:=hs _ hl
   simp only[ho,e1,hw,List.all_eq_true] at this
   exact this p hpl
 ·rfl
def vg : ∀(l:List Oper) (fr:Fr) (h:IH) (r:Fr×IH),fu E call nt ops l fr h=some r → ∃tr,trace E call nt ops l fr h=some tr∧tr[l.length]?=some r
 | [],fr,h,r,hr=>by simp only[fu] at hr;cases hr;exact⟨_,rfl,rfl⟩
 | o :: l,fr,h,r,hr=>by
  rw[fu] at hr
  split at hr
  ·rename_i fr1 h1 hs
   obtain⟨tr,e1,e2⟩:=vg l fr1 h1 r hr
   exact⟨(fr,h) :: tr,by simp[trace,hs,e1],by simpa using e2⟩
  ·cases hr
def fX (ops:List Oper):Bool:=lU ops && (CK ops).isEmpty
def BV {r:Fr×IH} (hc:fX ops=true) (hr:fu E call nt ops ops fr h=some r):gV E call nt ops fr h=some r:=by
 simp only[fX,Bool.and_eq_true,List.isEmpty_iff] at hc
 obtain⟨tr,e1,e2⟩:=vg ops fr h r hr
 have hs:steady E.P ops tr (yJ ops)=true:=zV e1 (by rw[hc.2];rfl)
 simp[gV,e1,hc.1,hs,e2]
def E0 (P:Program):Env:=⟨P,fun _ _=>none,fun _=>none⟩
def Tm {α:Type} (o:Nat→Option α) (Q:α→Prop):Prop:=∃a,(∃N,∀n,N≤n→o n=some a)∧Q a
variable {α:Type}{o:Nat→Option α}{Q:α→Prop}
def Tm.mono {R:α→Prop} (h:Tm o Q) (k : ∀a,Q a→R a):Tm o R :=
 let ⟨a,h1,h2⟩:=h;⟨a,h1,k a h2⟩
variable {a:α}
def Tm.of (h : ∀n,o n=some a) (q:Q a):Tm o Q:=⟨a,⟨0,fun n _=>h n⟩,q⟩
variable {β:Type}
theorem Tm.of2 {o:Nat→Option (α×β)} {K:α→β→Prop} {b:β} (k:K a b) (h : ∀n,o n=some (a,b)):Tm o fun p=>K p.1 p.2:=⟨(a,b),⟨0,fun n _=>h n⟩,k⟩
def Tm.bind {p:Nat→Option β} {Q:β→Prop} (f:α→Nat→Option β) (h:Tm o fun a=>Tm (f a) Q) (hp : ∀n a,o n=some a→p n=f a n):Tm p Q:=by
 obtain⟨a,⟨N,h1⟩,b,⟨M,h2⟩,q⟩:=h
 refine⟨b,⟨max N M,fun n hn=>?_⟩,q⟩
 rw[hp n a (h1 n (Nat.le_trans (Nat.le_max_left _ _) hn)),h2 n (Nat.le_trans (Nat.le_max_right _ _) hn)]
def Tm.congr {p:Nat→Option α} (h:Tm o Q) (e : ∀n,p n=o n):Tm p Q :=
 let ⟨a,⟨N,h1⟩,h2⟩:=h;⟨a,⟨N,fun n hn=>(e n).trans (h1 n hn)⟩,h2⟩
def Ex {α:Type} (o:Option α) (K:α→Prop):Prop:=∃v,o=some v∧K v
@[congr] theorem Zdc {α:Type} {o o':Option α} {K:α→Prop} (h:o=o'):Ex o K=Ex o' K:=by rw[h]
@[simp] theorem FZ {α:Type} (v:α) (K:α→Prop):Ex (some v) K=K v:=by simp[Ex]
@[simp] theorem Zdi {α:Type} (K:α→Prop):Ex none K=False:=by simp[Ex]
@[simp] theorem ZS {α β:Type} (o:Option α) (f:α→β) (K:β→Prop):Ex (o.map f) K=Ex o fun v=>K (f v):=by cases o<;>simp[Ex]
theorem Ex.mono {o:Option α} {K L:α→Prop} (h:Ex o K) (k : ∀v,K v→L v):Ex o L:=let ⟨v,a,b⟩:=h;⟨v,a,k v b⟩
def Br (b:Bool) (p q:Prop):Prop:=if b=true then p else q
@[congr] theorem Zde {b b':Bool} {p q:Prop} (h:b=b'):Br b p q=Br b' p q:=by rw[h]
@[simp] theorem V0 (p q:Prop):Br true p q=p:=by simp[Br]
@[simp] theorem TS (p q:Prop):Br false p q=q:=by simp[Br]
theorem Br.intro {b:Bool} {p q:Prop} (h1:b=true→p) (h2:b=false→q):Br b p q:=by cases b<;>simp_all [Br]
def Lt (p:Prop):Prop:=p
@[congr] theorem Zc5 {p:Prop}:Lt p=Lt p:=rfl
def WV (P:Program) (fv:Value) (vs:List Value) (h:IH) (K:Value→IH→Prop):Prop:=Tm (fun n=>cc (E0 P) n fv vs h) fun p=>K p.1 p.2
variable {h:IH}{K:Value→IH→Prop}{P:Program}
@[congr] theorem Zc2 {P:Program} {fv fv':Value} {vs vs':List Value} {h h':IH} {K:Value→IH→Prop} (a:fv=fv') (b:vs=vs') (c:h=h'):WV P fv vs h K=WV P fv' vs' h' K:=by rw[a,b,c]
theorem WV.mono {fv:Value} {vs:List Value} {L:Value→IH→Prop} (w:WV P fv vs h K) (k : ∀v h',K v h'→L v h'):WV P fv vs h L:=Tm.mono w fun _ x=>k _ _ x
def wpOp (P:Program) (o:Op) (fr:Fr) (h:IH) (K:Value→IH→Prop):Prop :=
 match o with
 | .move x=>Ex (opd fr x) fun v=>K v h
 | .assign x=>Ex (opd fr x) fun v=>K v h
 | .pick c a b=>Ex (opd fr c) fun c=>Ex (opd fr a) fun a=>Ex (opd fr b) fun b=>c=.bool true∧K a h∨c=.bool false∧K b h
 | .alloc t=>Ex (aE P t) fun z=>K (ptr (2*h.n) 0) (h.new (.cells z 0 none))
 | .box _ x=>Ex (opd fr x) fun v=>K (ptr (2*h.n) 0) (h.new (.cells v.cells.toList 0 none))
 | .load t a=>Ex (opd fr a) fun a=>Ex (load P h t a) fun v=>K v h
 | .store t a x=>Ex (opd fr a) fun a=>Ex (opd fr x) fun x=>Ex (store P h t a x) fun h=>K undef h
 | .binOp op t x y _=>Ex (opd fr x) fun a=>Ex (opd fr y) fun b=>Ex (binop P op t x y a b) fun v=>K v h
 | .fieldAddr t x f=>Ex (opd fr x) fun x=>Ex (fG P t f) fun f=>Ex (asAddr x) fun a=>Ex (aO P f.type) fun n=>n≠0∧K (ptr a.1 (a.2+f.offset)) h
 | .indexAddr t x i=>Ex (opd fr x) fun x=>Ex (opd fr i) fun i=>Ex (indexAddr P t x i) fun v=>K v h
 | .extract x i=>Ex (opd fr x) fun x=>match x with
  | .tuple vs=>Ex vs[i]? fun v=>K v h
  | _=>False
 | .makeFunc fn first cap=>Ex (gL fr first.toList) fun a=>Ex (gL fr cap.toList) fun b=>match fn with
  | .func f=>K (.func (.func f) a.toArray b.toArray) h
  | _=>False
 | .call c=>match c.callee with
  | .value f=>Ex (opd fr f) fun fv=>Ex (gL fr c.args.toList) fun vs=>WV P fv vs h K
  | .builtin b=>Ex (gL fr c.args.toList) fun vs=>Ex (builtin P h b c.argTypes vs) fun r=>K r.1 r.2
  | _=>False
 | o=>Ex (iop P fr o h) fun r=>K r.1 r.2
variable {fr:Fr}
def I2 {o:Op} (w:wpOp P o fr h K):Tm (fun n=>dh (E0 P) (cc (E0 P) n) fr o h) fun p=>K p.1 p.2:=by
 unfold wpOp at w
 split at w
 case h_13 c =>
  split at w
  ·obtain⟨fv,h1,vs,h2,k⟩:=w
   rename_i f hc
   refine Tm.congr k fun n=>?_
   simp[dh,hc,h1,h2]
  ·obtain⟨vs,h1,r,h2,k⟩:=w
   rename_i b hc
   refine Tm.of (a:=r) (fun n=>?_) k
   simp[dh,hc,iop,h1,h2,E0]
  ·exact w.elim
 case h_3 =>
  obtain⟨c,h1,a,h2,b,h3,⟨rfl,k⟩|⟨rfl,k⟩⟩:=w
  ·exact Tm.of (a:=(a,h)) (fun n=>by simp[dh,iop,h1,h2]) k
  ·exact Tm.of (a:=(b,h)) (fun n=>by simp[dh,iop,h1,h3]) k
 case h_11 =>
  obtain⟨x,h1,k⟩:=w
  split at k
  ·obtain⟨v,h2,k⟩:=k
   exact Tm.of (a:=(v,h)) (fun n=>by simp[dh,iop,h1,h2]) k
  ·exact k.elim
 case h_12 =>
  obtain⟨x,h1,y,h2,k⟩:=w
  split at k
  ·exact Tm.of2 k fun n=>by simp[dh,iop,h1,h2]
  ·exact k.elim
 case h_9 =>
  obtain⟨x,h1,f,h2,⟨b,o⟩,h3,n,h4,h5,k⟩:=w
  refine Tm.of2 k fun m=>?_
  have h6:(n == 0)=false:=by simpa using h5
  simp[dh,iop,h1,h2,h3,h4,E0,h6]
 case h_14 =>
  obtain⟨r,h1,k⟩:=w
  refine Tm.of2 (a:=r.1) (b:=r.2) k fun n=>?_
  unfold dh
  split
  ·simp_all
  ·exact h1
 all_goals
  simp only[Ex] at w
  first
   | (obtain⟨a,h1,b,h2,c,h3,k⟩:=w;exact Tm.of2 k fun n=>by simp[dh,iop,h1,h2,h3,E0])
   | (obtain⟨a,h1,b,h2,k⟩:=w;exact Tm.of2 k fun n=>by simp[dh,iop,h1,h2,E0])
   | (obtain⟨a,h1,k⟩:=w;exact Tm.of2 k fun n=>by simp[dh,iop,h1,E0])
def fb (nt:Nat) (fr:Fr) (dst:Option Tmp) (v:Value) (K:Fr→Prop):Prop :=
 match dst with
 | none=>K fr
 | some d=>Br (Nat.blt d nt) (K ((d,v) :: fr)) False
variable {nt:Nat}
def kS {dst:Option Tmp} {v:Value} {K:Fr→Prop} (w:fb nt fr dst v K) : ∃fr',nh nt fr dst v=some fr'∧K fr':=by
 unfold fb at w
 split at w
 ·exact⟨_,rfl,w⟩
 ·rename_i d
  simp only[nh]
  cases hb:Nat.blt d nt<;>simp[hb] at w ⊢
  exact w
def wpOps (P:Program) (nt:Nat) (all:List Oper):List Oper→Fr→IH→(Fr→IH→Prop)→Prop
 | [],fr,h,K=>K fr h
 | o :: l,fr,h,K=>match o.guard with
  | none=>wpOp P o.op fr h fun v h=>fb nt fr o.dst v fun fr=>wpOps P nt all l fr h K
  | some (j,want)=>Ex ((all[j]?).bind (·.dst)) fun d=>Ex (ab fr d) fun b=>match b with
   | .bool b=>Br (b == want) (wpOp P o.op fr h fun v h=>fb nt fr o.dst v fun fr=>wpOps P nt all l fr h K) (fb nt fr o.dst undef fun fr=>wpOps P nt all l fr h K)
   | .tuple _=>fb nt fr o.dst undef fun fr=>wpOps P nt all l fr h K
   | _=>False
variable {all:List Oper}
def sj {o:Oper} {K:Fr→IH→Prop} (hw:bE all o fr=some true)
  (w:wpOp P o.op fr h fun v h=>fb nt fr o.dst v fun fr=>K fr h):Tm (fun n=>de (E0 P) (cc (E0 P) n) nt all o fr h) fun p=>K p.1 p.2:=by
 obtain⟨⟨v,h1⟩,⟨N,hN⟩,k⟩:=I2 w
 obtain⟨fr',hp,k⟩:=kS k
 exact⟨(fr',h1),⟨N,fun n hn=>by simp[de,hw,hN n hn,hp]⟩,k⟩
def qC : ∀{l:List Oper} {fr:Fr} {h:IH} {K:Fr→IH→Prop},wpOps P nt all l fr h K →
  Tm (fun n=>fu (E0 P) (cc (E0 P) n) nt all l fr h) fun p=>K p.1 p.2
 | [],fr,h,K,w=>Tm.of (a:=(fr,h)) (fun _=>rfl) w
 | o :: l,fr,h,K,w=>by
  have fin (s:Tm (fun n=>de (E0 P) (cc (E0 P) n) nt all o fr h) fun p=>wpOps P nt all l p.1 p.2 K):Tm (fun n=>fu (E0 P) (cc (E0 P) n) nt all (o :: l) fr h) fun p=>K p.1 p.2 :=
   Tm.bind (fun p n=>fu (E0 P) (cc (E0 P) n) nt all l p.1 p.2) (s.mono fun _ x=>qC x) fun n a ha=>by simp[fu,ha]
  unfold wpOps at w
  split at w
  ·rename_i hg
   exact fin (sj (by simp[bE,hg]) w)
  ·rename_i j want hg
   obtain⟨d,h1,b,h2,w⟩:=w
   split at w
   ·rename_i b
    unfold Br at w
    split at w
    ·rename_i hb
     exact fin (sj (by simp[bE,hg,h1,h2,eq_of_beq hb]) w)
    ·rename_i hb
     obtain⟨fr',hp,k⟩:=kS w
     refine fin (Tm.of (a:=(fr',h)) (fun n=>?_) k)
     have hb':(b == want)=false:=by simpa using hb
     simp[de,bE,hg,h1,h2,hb',hp]
   ·obtain⟨fr',hp,k⟩:=kS w
    refine fin (Tm.of (a:=(fr',h)) (fun n=>?_) k)
    simp[de,bE,hg,h1,h2,hp]
   ·exact w.elim
def cQ (P:Program) (nt:Nat) (all:List Oper):List Oper→Fr→IH→List (Fr×IH)→(List (Fr×IH)→Prop)→Prop
 | [],fr,h,tr,K=>K (tr ++ [(fr,h)])
 | o :: l,fr,h,tr,K=>match o.guard with
  | none=>wpOp P o.op fr h fun v h1=>fb nt fr o.dst v fun fr1=>cQ P nt all l fr1 h1 (tr ++ [(fr,h)]) K
  | some (j,want)=>Ex ((all[j]?).bind (·.dst)) fun d=>Ex (ab fr d) fun b=>match b with
   | .bool b=>Br (b == want) (wpOp P o.op fr h fun v h1=>fb nt fr o.dst v fun fr1=>cQ P nt all l fr1 h1 (tr ++ [(fr,h)]) K)
     (fb nt fr o.dst undef fun fr1=>cQ P nt all l fr1 h (tr ++ [(fr,h)]) K)
   | .tuple _=>fb nt fr o.dst undef fun fr1=>cQ P nt all l fr1 h (tr ++ [(fr,h)]) K
   | _=>False
def tx : ∀{l:List Oper} {fr:Fr} {h:IH} {tr:List (Fr×IH)} {K:List (Fr×IH)→Prop},cQ P nt all l fr h tr K →
  Tm (fun n=>trace (E0 P) (cc (E0 P) n) nt all l fr h) fun t=>K (tr ++ t)
 | [],fr,h,tr,K,w=>Tm.of (a:=[(fr,h)]) (fun _=>rfl) w
 | o :: l,fr,h,tr,K,w=>by
  have fin (s:Tm (fun n=>de (E0 P) (cc (E0 P) n) nt all o fr h) fun p=>cQ P nt all l p.1 p.2 (tr ++ [(fr,h)]) K):Tm (fun n=>trace (E0 P) (cc (E0 P) n) nt all (o :: l) fr h) fun t=>K (tr ++ t):=by
   refine Tm.bind (fun p n=>(trace (E0 P) (cc (E0 P) n) nt all l p.1 p.2).map ((fr,h) :: ·)) (s.mono fun p x=>?_) fun n a ha=>by simp[trace,ha]
   obtain⟨t,⟨N,hN⟩,k⟩:=tx x
   exact⟨(fr,h) :: t,⟨N,fun n hn=>by simp[hN n hn]⟩,by simpa using k⟩
  unfold cQ at w
  split at w
  ·rename_i hg
   exact fin (sj (K:=fun fr1 h1=>cQ P nt all l fr1 h1 (tr ++ [(fr,h)]) K) (by simp[bE,hg]) w)
  ·rename_i j want hg
   obtain⟨d,h1,b,h2,w⟩:=w
   split at w
   ·rename_i b
    unfold Br at w
    split at w
    ·rename_i hb
     exact fin (sj (K:=fun fr1 h1=>cQ P nt all l fr1 h1 (tr ++ [(fr,h)]) K) (by simp[bE,hg,h1,h2,eq_of_beq hb]) w)
    ·rename_i hb
     obtain⟨fr',hp,k⟩:=kS w
     refine fin (Tm.of (a:=(fr',h)) (fun n=>?_) k)
     have hb':(b == want)=false:=by simpa using hb
     simp[de,bE,hg,h1,h2,hb',hp]
   ·obtain⟨fr',hp,k⟩:=kS w
    refine fin (Tm.of (a:=(fr',h)) (fun n=>?_) k)
    simp[de,bE,hg,h1,h2,hp]
   ·exact w.elim
def cS (P:Program) (ops:List Oper) (tr:List (Fr×IH)):List (Nat×List Nat)→Prop
 | []=>True
 | e :: l=>(match ops[e.1]?,tr[e.1]? with
  | some o,some (fr,h)=>match bE ops o fr with
   | some true => ∀p∈e.2,match tr[p]? with
    | some (_,h')=>gP P fr o.op h h'=true
    | none=>False
   | _=>True
  | _,_=>False)∧cS P ops tr l
def qB {ops:List Oper} {tr:List (Fr×IH)} : ∀{l:List (Nat×List Nat)},cS P ops tr l→steady P ops tr l=true
 | [],_=>rfl
 | e :: l,w=>by
  unfold cS at w
  obtain⟨w1,w2⟩:=w
  have:=qB w2
  simp only[steady,List.all_cons,Bool.and_eq_true] at this ⊢
  refine⟨?_,this⟩
  split at w1
  ·rename_i o fr h ho ht
   simp only[ho,ht]
   split at w1
   ·rename_i hw
    simp only[hw,List.all_eq_true]
    intro p hp
    have:=w1 p hp
    split at this
    ·rename_i h' hh;simp[hh,this]
    ·exact this.elim
   ·rename_i hne
    split
    ·rename_i heq;exact absurd heq hne
    ·rfl
  ·exact w1.elim
def I7 (tr:List (Fr×IH)) (n:Nat) (K:Fr→IH→Prop):Prop:=Ex tr[n]? fun p=>K p.1 p.2
def yD (P:Program) (fn:FuncId) (nt:Nat) (rd:Option Nat) (b:Code) (fr:Fr) (h:IH) (Q:bN→Fr→IH→Prop):Prop :=
 Tm (fun n=>evC (E0 P) (cc (E0 P) n) fn nt rd n (.loop b) fr h) fun p=>Q p.1 p.2.1 p.2.2
@[congr] theorem Xr {P:Program} {fn:FuncId} {nt:Nat} {rd:Option Nat} {b:Code} {fr fr':Fr} {h h':IH} {Q:bN→Fr→IH→Prop} (e1:fr=fr') (e2:h=h'):yD P fn nt rd b fr h Q=yD P fn nt rd b fr' h' Q:=by rw[e1,e2]
def uH (P:Program) (fn:FuncId) (nt:Nat) (rd:Option Nat) (f:Operand) (ps:Array Tmp) (a b:Code) (fr:Fr) (h:IH) (Q:bN→Fr→IH→Prop):Prop :=
 Tm (fun n=>kG (E0 P) (cc (E0 P) n) fn nt rd f ps.toList a b fr h) fun p=>Q p.1 p.2.1 p.2.2
@[congr] theorem VU {P:Program} {fn:FuncId} {nt:Nat} {rd:Option Nat} {f:Operand} {ps:Array Tmp} {a b:Code} {fr fr':Fr} {h h':IH} {Q:bN→Fr→IH→Prop} (e1:fr=fr') (e2:h=h') :
  uH P fn nt rd f ps a b fr h Q=uH P fn nt rd f ps a b fr' h' Q:=by rw[e1,e2]
def Lh (P:Program) (nt:Nat) (ops:List Oper) (fr:Fr) (h:IH) (K:Fr→IH→Prop):Prop :=
 lU ops=true∧cQ P nt ops ops fr h [] fun tr=>cS P ops tr (CK ops)∧I7 tr ops.length K
def wpC (P:Program) (fn:FuncId) (nt:Nat) (rd:Option Nat):Code→Fr→IH→(bN→Fr→IH→Prop)→Prop
 | .skip,fr,h,Q=>Q .normal fr h
 | .label _,fr,h,Q=>Q .normal fr h
 | .region _ ops draw,fr,h,Q=>match draw with
  | false=>wpOps P nt ops.toList ops.toList fr h (Q .normal)
  | true=>(fX ops.toList=true→wpOps P nt ops.toList ops.toList fr h (Q .normal))∧(fX ops.toList=false→Lh P nt ops.toList fr h (Q .normal))
 | .seq a b,fr,h,Q=>wpC P fn nt rd a fr h fun e fr h=>match e with
  | .normal=>wpC P fn nt rd b fr h Q
  | .exit i=>Q (.exit i) fr h
  | .ret=>Q .ret fr h
 | .cond c a b,fr,h,Q=>Ex (opd fr c) fun c=>match c with
  | .bool c=>Br c (wpC P fn nt rd a fr h Q) (wpC P fn nt rd b fr h Q)
  | _=>False
 | .block id b,fr,h,Q=>wpC P fn nt rd b fr h fun e fr h=>match e with
  | .exit i=>Br (i == id) (Q .normal fr h) (Q (.exit i) fr h)
  | .normal=>Q .normal fr h
  | .ret=>Q .ret fr h
 | .loop b,fr,h,Q=>yD P fn nt rd b fr h Q
 | .scope b,fr,h,Q=>wpC P fn nt rd b fr h Q
 | .rangeFunc f ps a b,fr,h,Q=>uH P fn nt rd f ps a b fr h Q
 | .exit i,fr,h,Q=>Q (.exit i) fr h
 | .ret,fr,h,Q=>Q .ret fr h
 | .goto _,_,_,_=>False
 | .refuse _,_,_,_=>False
abbrev TmC (P:Program) (fn:FuncId) (nt:Nat) (rd:Option Nat) (c:Code) (fr:Fr) (h:IH) (Q:bN→Fr→IH→Prop):Prop :=
 Tm (fun n=>evC (E0 P) (cc (E0 P) n) fn nt rd n c fr h) fun p=>Q p.1 p.2.1 p.2.2
def Fl (P:Program) (fn:FuncId) (id:Nat) (fr:Fr):hP (E0 P) fn id fr=fr:=rfl
def fH {fn:FuncId} {rd:Option Nat} : ∀{c:Code} {fr:Fr} {h:IH} {Q:bN→Fr→IH→Prop},wpC P fn nt rd c fr h Q→TmC P fn nt rd c fr h Q
 | .skip,fr,h,Q,w=>Tm.of (a:=(.normal,fr,h)) (fun _=>rfl) w
 | .label _,fr,h,Q,w=>Tm.of (a:=(.normal,fr,h)) (fun _=>rfl) w
 | .region id ops draw,fr,h,Q,w=>by
  cases draw with
  | false =>
   obtain⟨p,⟨N,h1⟩,k⟩:=qC w
   exact⟨(.normal,p.1,p.2),⟨N,fun n hn=>by have:=h1 n hn;simp[evC,Fl,this]⟩,k⟩
  | true =>
   cases hc:fX ops.toList with
   | true =>
    obtain⟨p,⟨N,h1⟩,k⟩:=qC (w.1 hc)
    exact⟨(.normal,p.1,p.2),⟨N,fun n hn=>by have:=BV hc (h1 n hn);simp[evC,Fl,this]⟩,k⟩
   | false =>
    obtain⟨ho,w⟩:=w.2 hc
    obtain⟨tr,⟨N,h1⟩,hs,p,hp,k⟩:=tx w
    refine⟨(.normal,p.1,p.2),⟨N,fun n hn=>?_⟩,k⟩
    have h2:=h1 n hn
    simp only[List.nil_append,Array.length_toList] at hs hp
    simp only at h2
    have hs2:=zV h2 (qB hs)
    simp[evC,Fl,gV,h2,ho,show(E0 P).P=P from rfl,show steady P ops.toList tr (yJ ops.toList)=true from hs2,hp]
 | .seq a b,fr,h,Q,w=>by
  have w1:=fH (c:=a) w
  obtain⟨⟨e,fr1,h1⟩,⟨N,hN⟩,k⟩:=w1
  cases e with
  | normal =>
   obtain⟨r,⟨M,hM⟩,k⟩:=fH (c:=b) k
   refine⟨r,⟨max N M,fun n hn=>?_⟩,k⟩
   have e1:=hN n (Nat.le_trans (Nat.le_max_left _ _) hn)
   have e2:=hM n (Nat.le_trans (Nat.le_max_right _ _) hn)
   simp[evC,e1,e2]
  | exit i=>exact⟨(.exit i,fr1,h1),⟨N,fun n hn=>by have:=hN n hn;simp[evC,this]⟩,k⟩
  | ret=>exact⟨(.ret,fr1,h1),⟨N,fun n hn=>by have:=hN n hn;simp[evC,this]⟩,k⟩
 | .cond c a b,fr,h,Q,w=>by
  obtain⟨v,hv,w⟩:=w
  split at w
  ·rename_i c
   cases c with
   | true =>
    obtain⟨r,⟨M,hM⟩,k⟩:=fH (c:=a) (by simpa using w)
    exact⟨r,⟨M,fun n hn=>by have:=hM n hn;simp[evC,hv,this]⟩,k⟩
   | false =>
    obtain⟨r,⟨M,hM⟩,k⟩:=fH (c:=b) (by simpa using w)
    exact⟨r,⟨M,fun n hn=>by have:=hM n hn;simp[evC,hv,this]⟩,k⟩
  ·exact w.elim
 | .block id b,fr,h,Q,w=>by
  obtain⟨⟨e,fr1,h1⟩,⟨N,hN⟩,k⟩:=fH (c:=b) w
  cases e with
  | normal=>exact⟨(.normal,fr1,h1),⟨N,fun n hn=>by have:=hN n hn;simp[evC,this]⟩,k⟩
  | ret=>exact⟨(.ret,fr1,h1),⟨N,fun n hn=>by have:=hN n hn;simp[evC,this]⟩,k⟩
  | exit i =>
   cases hi:(i == id) with
   | true=>exact⟨(.normal,fr1,h1),⟨N,fun n hn=>by have:=hN n hn;simp[evC,this,hi]⟩,by simpa [hi] using k⟩
   | false=>exact⟨(.exit i,fr1,h1),⟨N,fun n hn=>by have:=hN n hn;simp[evC,this,hi]⟩,by simpa [hi] using k⟩
 | .loop b,fr,h,Q,w=>w
 | .scope b,fr,h,Q,w=>by
  obtain⟨r,⟨M,hM⟩,k⟩:=fH (c:=b) w
  exact⟨r,⟨M,fun n hn=>by have:=hM n hn;simp[evC,this]⟩,k⟩
 | .rangeFunc f ps a b,fr,h,Q,w=>Tm.congr w fun n=>by simp[evC]
 | .exit i,fr,h,Q,w=>Tm.of (a:=(.exit i,fr,h)) (fun _=>rfl) w
 | .ret,fr,h,Q,w=>Tm.of (a:=(.ret,fr,h)) (fun _=>rfl) w
 | .goto _,_,_,_,w=>w.elim
 | .refuse _,_,_,_,w=>w.elim
@[simp] theorem Zcc (t:Nat):ab [] t=none:=rfl
@[simp] theorem oV (s:Nat) (v:Value) (r:Fr) (t:Nat):ab ((s,v) :: r) t=if s=t then some v else ab r t:=by
 simp[ab,cond_eq_ite]
@[simp] theorem Mt (fr:Fr) (t:Nat):opd fr (.tmp t)=ab fr t:=rfl
@[simp] theorem Hr (fr:Fr) (f:FuncId):opd fr (.func f)=some (.func (.func f) #[] #[]):=rfl
theorem Ax (fr:Fr) (g:Nat) (h:g<4294967296):opd fr (.global g)=some (ptr (2*g+1) 0):=by
 have:Nat.blt g 4294967296=true:=by simp only[Nat.blt,Nat.ble_eq];exact h
 simp only[opd,this,cond_true];rfl
@[simp] theorem tJ (fr:Fr) (k:IntKind) (n:Int):opd fr (.const (.int k n))=some (.int k n):=rfl
@[simp] theorem rr (fr:Fr) (b:Bool):opd fr (.const (.bool b))=some (.bool b):=rfl
@[simp] theorem oK (fr:Fr) (b:ByteArray):opd fr (.const (.string b))=some (.string b):=rfl
@[simp] theorem nB (fr:Fr):opd fr (.const .nilFunc)=some .nilFunc:=rfl
@[simp] theorem mH (fr:Fr):opd fr (.const (.slice none 0 0))=some (.slice none 0 0):=rfl
@[simp] theorem oL (fr:Fr):opd fr (.const (.pointer none))=some (.pointer none):=rfl
@[simp] theorem oM (fr:Fr):opd fr (.const (.map none))=some (.map none):=rfl
@[simp] theorem Hp (fr:Fr):gL fr []=some []:=rfl
@[simp] theorem CO (fr:Fr) (x:Operand) (l:List Operand):gL fr (x :: l)=(opd fr x).bind fun v=>(gL fr l).map (v :: ·):=by
 simp only[gL];cases opd fr x<;>cases gL fr l<;>rfl
@[simp] theorem x8 (fr:Fr):partsOf fr []=some []:=rfl
@[simp] theorem vC (fr:Fr) (i:Nat) (x:Operand) (l:List (Nat×Operand)):partsOf fr ((i,x) :: l)=(opd fr x).bind fun v=>(partsOf fr l).map ((i,v) :: ·):=by
 simp only[partsOf];cases opd fr x<;>cases partsOf fr l<;>rfl
@[simp] theorem ya (fr:Fr):dr fr none=some none:=rfl
@[simp] theorem x9 (fr:Fr) (x:Operand):dr fr (some x)=(opd fr x).map some:=rfl
@[simp] theorem yj (i:Nat):dL i [] = []:=rfl
@[simp] theorem vZ (i:Nat) (v:Value) (l:List Value):dL i (v :: l)=(i,v) :: dL (i+1) l:=rfl
@[simp] theorem Xw (nt:Nat) (fr:Fr) (v:Value) (K:Fr→Prop):fb nt fr none v K=K fr:=rfl
@[simp] theorem IZ (nt:Nat) (fr:Fr) (d:Nat) (v:Value) (K:Fr→Prop) (hd:d<nt):fb nt fr (some d) v K=K ((d,v) :: fr):=by
 have:Nat.blt d nt=true:=by simp only[Nat.blt,Nat.ble_eq];exact hd
 simp[fb,this]
@[congr] theorem V5 {nt:Nat} {fr fr':Fr} {d:Option Tmp} {v v':Value} {K:Fr→Prop} (a:fr=fr') (b:v=v'):fb nt fr d v K=fb nt fr' d v' K:=by rw[a,b]
@[congr] theorem V8 {P:Program} {nt:Nat} {all l:List Oper} {fr fr':Fr} {h h':IH} {K:Fr→IH→Prop} (a:fr=fr') (b:h=h'):wpOps P nt all l fr h K=wpOps P nt all l fr' h' K:=by rw[a,b]
@[congr] theorem TT {P:Program} {nt:Nat} {all l:List Oper} {fr fr':Fr} {h h':IH} {tr:List (Fr×IH)} {K:List (Fr×IH)→Prop} (a:fr=fr') (b:h=h'):cQ P nt all l fr h tr K=cQ P nt all l fr' h' tr K:=by rw[a,b]
@[congr] theorem Xx {P:Program} {o:Op} {fr fr':Fr} {h h':IH} {K:Value→IH→Prop} (a:fr=fr') (b:h=h'):wpOp P o fr h K=wpOp P o fr' h' K:=by rw[a,b]
@[congr] theorem ZU {P:Program} {fn:FuncId} {nt:Nat} {rd:Option Nat} {c:Code} {fr fr':Fr} {h h':IH} {Q:bN→Fr→IH→Prop} (a:fr=fr') (b:h=h'):wpC P fn nt rd c fr h Q=wpC P fn nt rd c fr' h' Q:=by rw[a,b]
section
variable (P:Program) (fr:Fr) (h:IH) (K:Value→IH→Prop)
theorem NP (c a b:Operand):wpOp P (.pick c a b) fr h K=Ex (opd fr c) fun c=>Ex (opd fr a) fun a=>Ex (opd fr b) fun b=>c=.bool true∧K a h∨c=.bool false∧K b h:=rfl
def fieldAt (P:Program) (t:TypeId) (f:Nat):Option Nat:=(fG P t f).bind fun d=>(aO P d.type).bind fun n=>if n=0 then none else some d.offset
theorem zy (t:TypeId) (x:Operand) (f:Nat):wpOp P (.fieldAddr t x f) fr h K=Ex (opd fr x) fun x=>Ex (asAddr x) fun a=>Ex (fieldAt P t f) fun off=>K (ptr a.1 (a.2+off)) h:=by
 simp only[wpOp,fieldAt,Ex,eq_iff_iff]
 constructor
 ·rintro⟨x,h1,d,h2,a,h3,n,h4,h5,k⟩
  exact⟨x,h1,a,h3,d.offset,by simp[h2,h4,h5],k⟩
 ·rintro⟨x,h1,a,h3,off,h2,k⟩
  cases hd:fG P t f with
  | none=>simp[hd] at h2
  | some d =>
   cases hn:aO P d.type with
   | none=>simp[hd,hn] at h2
   | some n =>
    simp only[hd,hn,Option.bind_some] at h2
    split at h2
    ·cases h2
    ·rename_i h0;cases h2;exact⟨x,h1,d,rfl,a,h3,n,hn,h0,k⟩
def VY {α β:Type} (o:Option α) (f:α→Option β) (K:β→Prop):Ex (o.bind f) K=Ex o fun v=>Ex (f v) K:=by cases o<;>simp[Ex]
def NO (op:UnOp) (t:TypeId) (x:Operand):wpOp P (.unOp op t x) fr h K=Ex (opd fr x) fun v=>Ex (bif plain v then cJ P (Op.unary op v) else none) fun v=>K v h:=by
 show Ex (iop P fr (.unOp op t x) h) _=_
 simp only[iop]
 cases opd fr x with
 | none=>simp
 | some v=>cases hp:plain v<;>simp[hp]
def nP (P:Program) (s d:TypeId) (v:Value):Option Value:=bif plain v then cJ P (Go.convert s d v) else none
def DV (s d:TypeId) (x:Operand):wpOp P (.convert s d x) fr h K=Ex (opd fr x) fun v=>Ex (nP P s d v) fun v=>K v h:=by
 show Ex (iop P fr (.convert s d x) h) _=_
 simp only[iop,nP]
 cases opd fr x with
 | none=>simp
 | some v=>cases hp:plain v<;>simp[hp]
def zx (t:TypeId) (l c:Operand):wpOp P (.makeSlice t l c) fr h K=Ex (opd fr l) fun l=>Ex (opd fr c) fun c=>Ex (makeSlice P h t l c) fun r=>K r.1 r.2:=by
 show Ex (iop P fr (.makeSlice t l c) h) _=_
 simp only[iop]
 cases opd fr l<;>cases opd fr c<;>simp
def yG (t:TypeId) (n:Nat) (ps:Array (Nat×Operand)):wpOp P (.buildSlice t n ps) fr h K=Ex (partsOf fr ps.toList) fun ps=>Ex (buildSlice P h t n ps) fun r=>K r.1 r.2:=by
 show Ex (iop P fr (.buildSlice t n ps) h) _=_
 simp only[iop]
 cases partsOf fr ps.toList<;>simp
def I3 (t:TypeId) (x:Operand) (lo hi mx:Option Operand):wpOp P (.slice t x lo hi mx) fr h K=Ex (opd fr x) fun x=>Ex (dr fr lo) fun lo=>Ex (dr fr hi) fun hi=>Ex (dr fr mx) fun mx=>Ex (cT P h t x lo hi mx) fun v=>K v h:=by
 show Ex (iop P fr (.slice t x lo hi mx) h) _=_
 simp only[iop]
 cases opd fr x with
 | none=>simp
 | some x=>cases dr fr lo with
  | none=>simp
  | some lo=>cases dr fr hi with
   | none=>simp
   | some hi=>cases dr fr mx<;>simp
def iI (P:Program) (t:TypeId) (ps:List (Nat×Value)):Option Value :=
 (aE P t).bind fun z=>bif cE P t then (ck (placeOf P t) z ps).map fun cs=>.agg cs.toArray else none
def I6 (t:TypeId) (ps:Array (Nat×Operand)):wpOp P (.build t ps) fr h K=Ex (partsOf fr ps.toList) fun ps=>Ex (iI P t ps) fun v=>K v h:=by
 show Ex (iop P fr (.build t ps) h) _=_
 simp only[iop,iI]
 cases aE P t<;>cases partsOf fr ps.toList<;>cases cE P t<;>simp
def uB (P:Program) (t:TypeId) (f:Nat) (x:Value):Option Value :=
 match x with
 | .agg cs=>(fG P t f).bind fun d=>partOf P d.type cs d.offset
 | _=>none
def I5 (t:TypeId) (x:Operand) (f:Nat):wpOp P (.field t x f) fr h K=Ex (opd fr x) fun x=>Ex (uB P t f x) fun v=>K v h:=by
 show Ex (iop P fr (.field t x f) h) _=_
 simp only[iop]
 cases hx:opd fr x with
 | none=>simp
 | some v =>
  cases v<;>(try (simp[uB];done))
  cases hf:fG P t f with
  | none=>simp[uB,hf]
  | some d=>simp[uB,hf]
theorem BS (x:Operand):wpOp P (.nilCheck x) fr h K=Ex (opd fr x) fun x=>match x with
  | .pointer (some a)=>K (.pointer (some a)) h
  | .func (.func f) xs ys=>K (.func (.func f) xs ys) h
  | .func (.yield f) xs ys=>K (.func (.yield f) xs ys) h
  | .map r=>K (.map r) h
  | _=>False:=by
 show Ex (iop P fr (.nilCheck x) h) _=_
 simp only[iop]
 cases hx:opd fr x with
 | none=>simp
 | some v =>
  cases v with
  | pointer a=>cases a<;>simp
  | func f xs ys=>cases f<;>simp
  | _=>simp
def Gj (t:TypeId) (m k:Operand) (ok:Bool):wpOp P (.lookup t m k ok) fr h K=Ex (opd fr m) fun m=>Ex (opd fr k) fun k=>Ex (lookup P h t m k ok) fun v=>K v h:=by
 show Ex (iop P fr (.lookup t m k ok) h) _=_
 simp only[iop]
 cases opd fr m<;>cases opd fr k<;>simp
def qD (t:TypeId) (m k v:Operand):wpOp P (.mapUpdate t m k v) fr h K=Ex (opd fr m) fun m=>Ex (opd fr k) fun k=>Ex (opd fr v) fun v=>Ex (mapUpdate P h t m k v) fun h=>K undef h:=by
 show Ex (iop P fr (.mapUpdate t m k v) h) _=_
 simp only[iop]
 cases opd fr m<;>cases opd fr k<;>cases opd fr v<;>simp
def Gk (t:TypeId) (m k v:Operand):wpOp P (.insert t m k v) fr h K=Ex (opd fr m) fun m=>Ex (opd fr k) fun k=>Ex (opd fr v) fun v=>Ex (mapUpdate P h t m k v) fun h=>K undef h:=qD P fr h K t m k v
def DU (t:TypeId):wpOp P (.makeMap t none) fr h K=K (.map (some (2*h.n))) (h.new (.map [])):=by
 show Ex (iop P fr (.makeMap t none) h) _=_
 simp[iop]
def rF (P:Program) (t:TypeId) (x i:Value):Option Value :=
 match x with
 | .agg cs=>match P.underlying t,idxOf i with
   | some (.array n e),some (.ofNat j)=>bif Nat.blt j n then (aO P e).bind fun size=>partOf P e cs (j*size) else none
   | _,_=>none
 | .string s=>bif plain i then cJ P (Instr.index t (.string s) i) else none
 | _=>none
def I4 (t:TypeId) (x i:Operand):wpOp P (.index t x i) fr h K=Ex (opd fr x) fun x=>Ex (opd fr i) fun i=>Ex (rF P t x i) fun v=>K v h:=by
 show Ex (iop P fr (.index t x i) h) _=_
 simp only[iop]
 cases hx:opd fr x with
 | none=>simp
 | some v =>
  cases hi:opd fr i with
  | none=>cases v<;>simp
  | some i =>
   cases v<;>(try (simp[rF];done))
   ·simp only[rF,FZ]
    cases hp:plain i<;>simp[]
   ·rename_i cs
    simp only[rF,FZ]
    cases hu:P.underlying t with
    | none=>simp
    | some d =>
     cases hi':idxOf i with
     | none=>cases d<;>simp
     | some z =>
      cases d<;>(try (simp;done))
      cases z with
      | negSucc z=>simp
      | ofNat j =>
       rename_i n e
       simp only
       cases hb:Nat.blt j n<;>simp
       cases aO P e<;>simp
end
section
variable (P:Program) (t:TypeId) (ox oy:Operand) (k:IntKind) (a b:Int)
def cX {op:BinOp} {x y v:Value} (hx:plain x=true) (hy:plain y=true) (hv:plain v=true) (hr:ar P (do eqGuard op t ox oy x y;Go.binOp op t x y)=some v):binop P op t ox oy x y=some v:=by
 simp[binop,hx,hy,cJ,hr,hv]
@[simp] theorem xJ:binop P .add t ox oy (.int k a) (.int k b)=some (.int k (k.wrap (a+b))) :=
 cX P t ox oy rfl rfl rfl (by simp[eqGuard,Go.binOp,Op.intArith];rfl)
@[simp] theorem xu:binop P .sub t ox oy (.int k a) (.int k b)=some (.int k (k.wrap (a - b))) :=
 cX P t ox oy rfl rfl rfl (by simp[eqGuard,Go.binOp,Op.intArith];rfl)
@[simp] theorem xC:binop P .mul t ox oy (.int k a) (.int k b)=some (.int k (k.wrap (a*b))) :=
 cX P t ox oy rfl rfl rfl (by simp[eqGuard,Go.binOp,Op.intArith];rfl)
@[simp] theorem xH:binop P .eql t ox oy (.int k a) (.int k b)=some (.bool (a == b)) :=
 cX P t ox oy rfl rfl rfl (by simp[eqGuard,Go.binOp,Op.intCmp];rfl)
@[simp] theorem xz:binop P .neq t ox oy (.int k a) (.int k b)=some (.bool (a != b)) :=
 cX P t ox oy rfl rfl rfl (by simp[eqGuard,Go.binOp,Op.intCmp];rfl)
@[simp] theorem xD:binop P .lss t ox oy (.int k a) (.int k b)=some (.bool (decide (a<b))) :=
 cX P t ox oy rfl rfl rfl (by simp[eqGuard,Go.binOp,Op.intCmp];rfl)
@[simp] theorem xE:binop P .leq t ox oy (.int k a) (.int k b)=some (.bool (decide (a≤b))) :=
 cX P t ox oy rfl rfl rfl (by simp[eqGuard,Go.binOp,Op.intCmp];rfl)
@[simp] theorem xF:binop P .gtr t ox oy (.int k a) (.int k b)=some (.bool (decide (b<a))) :=
 cX P t ox oy rfl rfl rfl (by simp[eqGuard,Go.binOp,Op.intCmp];rfl)
@[simp] theorem xG:binop P .geq t ox oy (.int k a) (.int k b)=some (.bool (decide (b≤a))) :=
 cX P t ox oy rfl rfl rfl (by simp[eqGuard,Go.binOp,Op.intCmp];rfl)
end
@[simp] theorem aH (h:IH) (o:bI):(h.new o).n=h.n+1:=rfl
@[simp] theorem AB (h:IH) (o:bI):(h.new o).base=h.base:=rfl
@[simp] theorem ZaT (h:IH) (o:bI):(h.new o).bP=h.bP:=rfl
theorem lY (h:IH) (o:bI) (k:Nat):(h.new o).ext.get k=if k=h.n then some o else h.ext.get k:=by simp[IH.new,Tr.bL]
def IH.put (h:IH) (k:Nat) (o:bI):IH:={ h with ext:=h.ext.set k o }
@[simp] theorem aM (h:IH) (k:Nat) (o:bI):(h.put k o).n=h.n:=rfl
@[simp] theorem Aq (h:IH) (k:Nat) (o:bI):(h.put k o).base=h.base:=rfl
@[simp] theorem ZaI (h:IH) (k:Nat) (o:bI):(h.put k o).bP=h.bP:=rfl
theorem iT (h:IH) (k:Nat) (o:bI) (j:Nat):(h.put k o).ext.get j=if j=k then some o else h.ext.get j:=by simp[IH.put,Tr.bL]
theorem ah (h:IH) (o:bI) {k:Nat} (hk:k=h.n):(h.new o).ext.get k=some o:=by rw[lY,if_pos hk]
theorem aq (h:IH) (o:bI) {k:Nat} (hk:k≠h.n):(h.new o).ext.get k=h.ext.get k:=by rw[lY,if_neg hk]
theorem ae (h:IH) (o:bI) {k j:Nat} (hk:j=k):(h.put k o).ext.get j=some o:=by rw[iT,if_pos hk]
theorem ak (h:IH) (o:bI) {k j:Nat} (hk:j≠k):(h.put k o).ext.get j=h.ext.get j:=by rw[iT,if_neg hk]
def IH.cells (h:IH) (k:Nat):Option (List Value):=match h.ext.get k with
 | some (.cells cs _ _)=>some cs
 | _=>none
variable {h:IH}{cs:List Value}{k:Nat}
def By {e:Nat} {f:Option Nat} (hk:h.ext.get k=some (.cells cs e f)):h.cells k=some cs:=by simp[IH.cells,hk]
theorem jD (h:IH) (k:Nat):h.row (2*k)=h.cells k:=by
 have h1:(2*k) % 2=0:=by omega
 have h2:2*k / 2=k:=by omega
 simp only[IH.row,h1,h2,IH.cells];rfl
def jC (h:IH) (cs:List Value) (e:Nat) (f:Option Nat) {b:Nat} (hb:b=2*h.n):(h.new (.cells cs e f)).row b=some cs:=by
 subst hb;rw[jD];simp[IH.cells,lY]
def xT (h:IH) (o:bI) {b:Nat} (hb:b≠2*h.n):(h.new o).row b=h.row b:=by
 simp only[IH.row,AB,lY,cond_eq_ite,beq_iff_eq]
 by_cases h1:b % 2=1
 ·simp[h1]
 ·rw[if_neg h1,if_neg h1,if_neg (by omega)]
def vj (h:IH) (cs:List Value) (e:Nat) (f:Option Nat) {b k:Nat} (hb:b=2*k):(h.put k (.cells cs e f)).row b=some cs:=by
 subst hb;rw[jD];simp[IH.cells,iT]
theorem qU (h:IH) (k:Nat) (o:bI) {b:Nat} (hb:b≠2*k):(h.put k o).row b=h.row b:=by
 simp only[IH.row,Aq,iT,cond_eq_ite,beq_iff_eq]
 by_cases h1:b % 2=1
 ·simp[h1]
 ·rw[if_neg h1,if_neg h1,if_neg (by omega)]
structure Ext (h h':IH):Prop where
 n:h.n≤h'.n
 base:h'.base=h.base
 get : ∀k,k<h.n→h'.ext.get k=h.ext.get k
 bP : ∀f,f<h.n→h'.bP.get f=h.bP.get f
variable {a b:IH}
@[simp] theorem Ext.refl (h:IH):Ext h h:=⟨Nat.le_refl _,rfl,fun _ _=>rfl,fun _ _=>rfl⟩
theorem Ext.trans {c:IH} (h:Ext a b) (k:Ext b c):Ext a c :=
 ⟨Nat.le_trans h.n k.n,k.base.trans h.base,fun x hx=>(k.get x (Nat.lt_of_lt_of_le hx h.n)).trans (h.get x hx),fun x hx=>(k.bP x (Nat.lt_of_lt_of_le hx h.n)).trans (h.bP x hx)⟩
def Ext.new (h:Ext a b) (o:bI):Ext a (b.new o) :=
 ⟨Nat.le_trans h.n (Nat.le_succ _),h.base,fun x hx=>by rw[lY,if_neg (by have:=h.n;omega)];exact h.get x hx,fun x hx=>h.bP x hx⟩
def Ext.put (h:Ext a b) (hk:a.n≤k) (o:bI):Ext a (b.put k o) :=
 ⟨h.n,h.base,fun x hx=>by rw[iT,if_neg (by omega)];exact h.get x hx,fun x hx=>h.bP x hx⟩
def Ext.row (h:Ext a b) {x:Nat} (hx:x % 2=1∨x<2*a.n):b.row x=a.row x:=by
 simp only[IH.row,h.base,cond_eq_ite,beq_iff_eq]
 by_cases h1:x % 2=1
 ·rw[if_pos h1,if_pos h1]
 ·rw[if_neg h1,if_neg h1,h.get _ (by omega)]
def ld (h:IH) (b o:Nat):Option Value:=(h.row b).bind (·[o]?)
variable {o:Nat}
theorem WM {b:Nat} (hr:h.row b=some cs):ld h b o=cs[o]?:=by simp[ld,hr]
variable {t:TypeId}{P:Program}
theorem cC (hT:bh P t=some false) (h:IH) (b o:Nat):load P h t (ptr b o)=ld h b o:=by
 simp only[load,asAddr,ptr,hT,IH.rd,ld]
 cases aO P t <;>
 (cases hr:h.row b with
  | none=>rfl
  | some cs =>
   simp only[Option.bind_some,cond_eq_ite,Nat.ble_eq]
   by_cases hl:o+1≤cs.length
   ·rw[if_pos hl]
    simp only[Option.bind_some]
    rw[List.head?_take,if_neg (by omega),List.head?_drop]
   ·rw[if_neg hl,List.getElem?_eq_none (by omega)];rfl)
variable {n:Nat}
theorem fg (hT:bh P t=some true) (hn:aO P t=some n) (h:IH) (b o:Nat):load P h t (ptr b o)=(h.rd b o n).map fun cs=>.agg cs.toArray:=by
 simp only[load,asAddr,ptr,hT,hn]
@[simp] theorem BL (b o:Nat):asAddr (ptr b o)=some (b,o):=rfl
theorem tH {b:Nat} (hr:h.row b=some cs):h.rd b o n=if o+n≤cs.length then some ((cs.drop o).take n) else none:=by
 simp[IH.rd,hr,cond_eq_ite]
variable {nt:Nat}{K:Value→IH→Prop}
@[simp] theorem DH (k:IntKind) (n:Int):(Value.int k n).cells = #[.int k n]:=rfl
@[simp] theorem BA (b:Bool):(Value.bool b).cells = #[.bool b]:=rfl
@[simp] theorem yy (a:Option Addr) (n c:Nat):(Value.slice a n c).cells = #[.slice a n c]:=rfl
@[simp] theorem DF (b o:Nat):(ptr b o).cells = #[ptr b o]:=rfl
@[simp] theorem DI (cs:Array Value):(Value.agg cs).cells=cs:=rfl
@[simp] theorem Bz (f:Fn) (a b:Array Value):(Value.func f a b).cells = #[.func f a b]:=rfl
@[simp] theorem tN:(Value.nilFunc).cells = #[.nilFunc]:=rfl
@[simp] theorem DG (r:Option Nat):(Value.map r).cells = #[.map r]:=rfl
@[simp] theorem wx:(Value.pointer none).cells = #[.pointer none]:=rfl
theorem P4 {f:FuncId} {fn:Func} {c:Code} {rs:List ResultVar} {first cap:Array Value} {vs:List Value} 
  (hf:P.funcs[f]?=some fn) (hb:fn.body=some c) (hn:fn.ntmps=nt) (hr:fn.results.toList=rs) (hl:(first.toList ++ (vs ++ cap.toList)).length≤nt)
  (w:wpC P f nt none c (dL 0 (first.toList ++ (vs ++ cap.toList))) h fun e fr h=>match e with
   | .exit _=>False
   | .normal=>Ex (bf P fr h rs) fun l=>K (single l) h
   | .ret=>Ex (bf P fr h rs) fun l=>K (single l) h):WV P (.func (.func f) first cap) vs h K:=by
 subst hn;subst hr
 obtain⟨⟨e,fr,h1⟩,⟨N,hN⟩,k⟩:=fH w
 have key : ∃l,bf P fr h1 fn.results.toList=some l∧K (single l) h1 ∧ ∀i,e≠.exit i:=by
  cases e with
  | exit i=>exact k.elim
  | normal=>obtain⟨l,a,b⟩:=k;exact⟨l,a,b,fun i hi=>by cases hi⟩
  | ret=>obtain⟨l,a,b⟩:=k;exact⟨l,a,b,fun i hi=>by cases hi⟩
 obtain⟨l,hl1,k,hne⟩:=key
 refine⟨(single l,h1),⟨N+1,fun n hn=>?_⟩,k⟩
 obtain⟨n,rfl⟩ : ∃m,n=m+1:=⟨n - 1,by omega⟩
 have h2:=hN n (by omega)
 simp only at h2
 have qv:Nat.ble (first.toList ++ (vs ++ cap.toList)).length fn.ntmps=true:=by simpa [Nat.ble_eq] using hl
 have hf':(E0 P).P.funcs[f]?=some fn:=hf
 simp only[cc,ov,show(E0 P).tk f=none from rfl,hf',hb,qv,cond_true,h2]
 cases e with
 | exit i=>exact absurd rfl (hne i)
 | normal=>simp[E0,hl1]
 | ret=>simp[E0,hl1]
variable {rd:Option Nat}{fn:FuncId}{fr:Fr}
@[simp] theorem tF (P:Program) (fr:Fr) (h:IH):bf P fr h []=some []:=rfl
@[simp] theorem qV (P:Program) (fr:Fr) (h:IH) (r:ResultVar) (l:List ResultVar):bf P fr h (r :: l)=(gW P fr h r).bind fun v=>(bf P fr h l).map (v :: ·):=by
 simp only[bf];cases gW P fr h r<;>cases bf P fr h l<;>rfl
@[simp] theorem vm (P:Program) (fr:Fr) (h:IH) (t:Tmp):gW P fr h (.tmp t)=ab fr t:=rfl
@[simp] theorem tG (P:Program) (fr:Fr) (h:IH) (a:Tmp) (t:TypeId):gW P fr h (.cell a t)=(ab fr a).bind fun v=>load P h t v:=by
 simp only[gW];cases ab fr a<;>rfl
theorem Z0 {b:Code} {Q:bN→Fr→IH→Prop} (I:Nat→Fr→IH→Prop)
  (step : ∀m fr h,I m fr h→wpC P fn nt rd b fr h fun e fr' h'=>match e with
   | .normal => ∃m',m'<m∧I m' fr' h'
   | .exit i=>Q (.exit i) fr' h'
   | .ret=>Q .ret fr' h') {m:Nat} (start:I m fr h) (hm:rK b=none):yD P fn nt rd b fr h Q:=by
 have key : ∀m fr h,I m fr h → ∃r:bN×Fr×IH,(∃N,∀n,N≤n → ∀j,m+1≤j→mJ (evC (E0 P) (cc (E0 P) n) fn nt rd n b) j fr h=some r)∧Q r.1 r.2.1 r.2.2:=by
  intro m
  induction m using Nat.strongRecOn with
  | _ m ih =>
   intro fr h hi
   obtain⟨⟨e,fr1,h1⟩,⟨N,hN⟩,k⟩:=fH (step m fr h hi)
   cases e with
   | normal =>
    obtain⟨m',hm,hi'⟩:=k
    obtain⟨r,⟨M,hM⟩,q⟩:=ih m' hm fr1 h1 hi'
    refine⟨r,⟨max N M,fun n hn j hj=>?_⟩,q⟩
    obtain⟨j,rfl⟩ : ∃i,j=i+1:=⟨j - 1,by omega⟩
    have e1:=hN n (Nat.le_trans (Nat.le_max_left _ _) hn)
    simp only at e1
    rw[mJ,e1]
    exact hM n (Nat.le_trans (Nat.le_max_right _ _) hn) j (by omega)
   | exit i =>
    refine⟨(.exit i,fr1,h1),⟨N,fun n hn j hj=>?_⟩,k⟩
    obtain⟨j,rfl⟩ : ∃i,j=i+1:=⟨j - 1,by omega⟩
    have e1:=hN n hn
    simp only at e1
    rw[mJ,e1]
   | ret =>
    refine⟨(.ret,fr1,h1),⟨N,fun n hn j hj=>?_⟩,k⟩
    obtain⟨j,rfl⟩ : ∃i,j=i+1:=⟨j - 1,by omega⟩
    have e1:=hN n hn
    simp only at e1
    rw[mJ,e1]
 obtain⟨r,⟨N,hN⟩,q⟩:=key m fr h start
 exact⟨r,⟨max N (m+1),fun n hn=>by
  have:=hN n (Nat.le_trans (Nat.le_max_left _ _) hn) n (Nat.le_trans (Nat.le_max_right _ _) hn)
  show evC (E0 P) (cc (E0 P) n) fn nt rd n (.loop b) fr h=some r
  rw[Bf,hm];exact this⟩,q⟩
def wpOp_mono {o:Op} {L:Value→IH→Prop} (k : ∀v h,K v h→L v h) (w:wpOp P o fr h K):wpOp P o fr h L:=by
 cases o
 case call c =>
  cases hc:c.callee<;>simp only[wpOp,hc] at w ⊢
  ·exact Ex.mono w fun _ w=>Ex.mono w fun _ w=>WV.mono w k
  ·exact Ex.mono w fun _ w=>Ex.mono w fun _ w=>k _ _ w
 case pick=>exact Ex.mono w fun _ w=>Ex.mono w fun _ w=>Ex.mono w fun _ w=>w.imp (fun x=>⟨x.1,k _ _ x.2⟩) fun x=>⟨x.1,k _ _ x.2⟩
 case extract =>
  refine Ex.mono w fun v w=>?_
  split at w
  ·exact Ex.mono w fun _ w=>k _ _ w
  ·exact w.elim
 case makeFunc f _ _ =>
  refine Ex.mono w fun v w=>Ex.mono w fun u w=>?_
  cases f
  ·exact k _ _ w
  all_goals exact w.elim
 case fieldAddr=>exact Ex.mono w fun _ w=>Ex.mono w fun _ w=>Ex.mono w fun _ w=>Ex.mono w fun _ w=>⟨w.1,k _ _ w.2⟩
 all_goals
  first
   | exact Ex.mono w fun _ w=>Ex.mono w fun _ w=>Ex.mono w fun _ w=>k _ _ w
   | exact Ex.mono w fun _ w=>Ex.mono w fun _ w=>k _ _ w
   | exact Ex.mono w fun _ w=>k _ _ w
def gM {d:Option Tmp} {v:Value} {K L:Fr→Prop} (k : ∀fr,K fr→L fr) (w:fb nt fr d v K):fb nt fr d v L:=by
 unfold fb at w ⊢
 split
 ·exact k _ w
 ·unfold Br at w ⊢;split<;>simp_all
def Br.mono {b:Bool} {p q p' q':Prop} (h1:p→p') (h2:q→q') (w:Br b p q):Br b p' q':=by cases b<;>simp_all
variable {all:List Oper}
def jO {K L:Fr→IH→Prop} (k : ∀fr h,K fr h→L fr h) : ∀{l:List Oper} {fr:Fr} {h:IH},wpOps P nt all l fr h K→wpOps P nt all l fr h L
 | [],_,_,w=>k _ _ w
 | o :: l,fr,h,w=>by
  unfold wpOps at w ⊢
  split at w
  ·exact wpOp_mono (fun v h w=>gM (fun fr w=>jO k w) w) w
  ·refine Ex.mono w fun d w=>Ex.mono w fun b w=>?_
   split at w
   ·exact Br.mono (fun w=>wpOp_mono (fun v h w=>gM (fun fr w=>jO k w) w) w) (fun w=>gM (fun fr w=>jO k w) w) w
   ·exact gM (fun fr w=>jO k w) w
   ·exact w
def jy {K L:List (Fr×IH)→Prop} (k : ∀t,K t→L t) : ∀{l:List Oper} {fr:Fr} {h:IH} {tr:List (Fr×IH)},cQ P nt all l fr h tr K→cQ P nt all l fr h tr L
 | [],_,_,_,w=>k _ w
 | o :: l,fr,h,tr,w=>by
  unfold cQ at w ⊢
  split at w
  ·exact wpOp_mono (fun v h w=>gM (fun fr w=>jy k w) w) w
  ·refine Ex.mono w fun d w=>Ex.mono w fun b w=>?_
   split at w
   ·exact Br.mono (fun w=>wpOp_mono (fun v h w=>gM (fun fr w=>jy k w) w) w) (fun w=>gM (fun fr w=>jy k w) w) w
   ·exact gM (fun fr w=>jy k w) w
   ·exact w
def mn : ∀{c:Code} {Q R:bN→Fr→IH→Prop} {fr:Fr} {h:IH},(∀e fr h,Q e fr h→R e fr h)→wpC P fn nt rd c fr h Q→wpC P fn nt rd c fr h R
 | .skip,_,_,_,_,k,w=>k _ _ _ w
 | .label _,_,_,_,_,k,w=>k _ _ _ w
 | .region _ _ draw,_,_,_,_,k,w=>by
  cases draw with
  | false=>exact jO (k _) w
  | true=>exact⟨fun hc=>jO (k _) (w.1 hc),fun hc=>⟨(w.2 hc).1,jy (fun t w=>⟨w.1,Ex.mono w.2 fun _ w=>k _ _ _ w⟩) (w.2 hc).2⟩⟩
 | .seq a b,Q,R,fr,h,k,w=>by
  refine mn (c:=a) (fun e fr h w=>?_) w
  cases e with
  | normal=>exact mn (c:=b) k w
  | exit i=>exact k _ _ _ w
  | ret=>exact k _ _ _ w
 | .cond c a b,Q,R,fr,h,k,w=>by
  refine Ex.mono w fun v w=>?_
  split at w
  ·exact Br.mono (fun w=>mn (c:=a) k w) (fun w=>mn (c:=b) k w) w
  ·exact w
 | .block id b,Q,R,fr,h,k,w=>by
  refine mn (c:=b) (fun e fr h w=>?_) w
  cases e with
  | normal=>exact k _ _ _ w
  | exit i=>exact Br.mono (k _ _ _) (k _ _ _) w
  | ret=>exact k _ _ _ w
 | .loop b,_,_,_,_,k,w=>Tm.mono w fun _ w=>k _ _ _ w
 | .scope b,_,_,_,_,k,w=>mn (c:=b) k w
 | .rangeFunc _ _ _ _,_,_,_,_,k,w=>Tm.mono w fun _ w=>k _ _ _ w
 | .exit _,_,_,_,_,k,w=>k _ _ _ w
 | .ret,_,_,_,_,k,w=>k _ _ _ w
 | .goto _,_,_,_,_,_,w=>w.elim
 | .refuse _,_,_,_,_,_,w=>w.elim
theorem wrap_i64 {x:Int} (h : -9223372036854775808≤x∧x≤9223372036854775807):IntKind.i64.wrap x=x:=IntWalk.i64_in x h
theorem uK {x:Int} (h:0≤x∧x≤18446744073709551615):IntKind.u64.wrap x=x:=IntWalk.u64_in x h
def wrap_u8 {x:Int} (h:0≤x∧x≤255):IntKind.u8.wrap x=x:=IntWalk.u8_in x h
def Gi {x:Int} (h:0≤x∧x≤65535):IntKind.u16.wrap x=x:=IntWalk.u16_in x h
def wrap_u32 {x:Int} (h:0≤x∧x≤4294967295):IntKind.u32.wrap x=x:=IntWalk.u32_in x h
def eu (P:Program) (t:TypeId):Option Nat:=match P.underlying t with
 | some (.slice e)=>aO P e
 | _=>none
def NC (P:Program) (t:TypeId):Option (Nat×Nat):=match P.underlying t with
 | some (.array n e)=>(aO P e).map (n,·)
 | _=>none
def jh (P:Program) (t:TypeId):Option (Nat×Nat):=match P.underlying t with
 | some (.slice e)=>match aO P e,ij P e,aE P e with
  | some size,some bytes,some zs=>bif size == 0 || (!(Nat.ble bytes 65536) || !(zs.length == size)) then none else some (size,bytes)
  | _,_,_=>none
 | _=>none
def oN (P:Program) (t:TypeId):Option (Nat×Nat×List Value):=match P.underlying t with
 | some (.slice e)=>match aO P e,ij P e,aE P e with
  | some n,some b,some z=>bif z.length == n then some (n,b,z) else none
  | _,_,_=>none
 | _=>none
def sU (P:Program) (t:TypeId) (f:Nat):Option (Bool×Nat×Nat) :=
 (fG P t f).bind fun d=>(bh P d.type).bind fun b=>(aO P d.type).map fun n=>(b,d.offset,n)
def Bd (P:Program) (t:TypeId) (f:Nat) (cs:Array Value) :
  uB P t f (.agg cs)=(sU P t f).bind fun p=>if p.1=true then some (.agg (cs.extract p.2.1 (p.2.1+p.2.2))) else cs[p.2.1]?:=by
 simp only[uB,sU]
 cases fG P t f with
 | none=>rfl
 | some d =>
  simp only[Option.bind_some,partOf]
  cases ha:bh P d.type with
  | none=>rfl
  | some b =>
   cases hs:aO P d.type with
   | none =>
    cases b with
    | true=>rfl
    | false => -- a size is there where the kind is
     exfalso
     simp only[bh,Program.underlying,Option.map_eq_some_iff] at ha
     simp only[aO,Option.map_eq_none_iff] at hs
     obtain⟨x,h1,_⟩:=ha
     simp[hs] at h1
   | some n=>cases b<;>simp
def qj (i:Int) (n:Nat):Option Nat:=match i with
 | .ofNat j=>if j<n then some j else none
 | .negSucc _=>none
@[simp] theorem xi {j n:Nat} (h:j<n):qj (j:Int) n=some j:=by
 show(if j<n then some j else none)=some j
 rw[if_pos h]
theorem lk (P:Program) (t:TypeId) (b o n c:Nat) (k:IntKind) (i:Int) :
  indexAddr P t (.slice (some ⟨b,o,none⟩) n c) (.int k i)=(eu P t).bind fun sz=>(qj i n).map fun j=>ptr b (o+j*sz):=by
 simp only[indexAddr,eu,idxOf]
 cases hu:P.underlying t with
 | none=>rfl
 | some d =>
  cases d<;>(try rfl)
  rename_i e
  simp only
  cases hs:aO P e with
  | none=>rfl
  | some sz =>
   cases i with
   | ofNat j =>
    simp only[qj,Option.bind_some,cond_eq_ite,Nat.blt,Nat.ble_eq,Nat.succ_le_iff]
    by_cases hj:j<n
    ·rw[if_pos hj,if_pos hj];rfl
    ·rw[if_neg hj,if_neg hj];rfl
   | negSucc j=>rfl
def tK (P:Program) (t:TypeId) (b o:Nat) (k:IntKind) (i:Int) :
  indexAddr P t (ptr b o) (.int k i)=(NC P t).bind fun a=>(qj i a.1).map fun j=>ptr b (o+j*a.2):=by
 simp only[indexAddr,NC,idxOf,ptr]
 cases hu:P.underlying t with
 | none=>rfl
 | some d =>
  cases d<;>(try rfl)
  rename_i n e
  simp only
  cases hs:aO P e with
  | none=>rfl
  | some sz =>
   cases i with
   | ofNat j =>
    simp only[qj,Option.bind_some,Option.map_some,cond_eq_ite,Nat.blt,Nat.ble_eq,Nat.succ_le_iff]
    by_cases hj:j<n
    ·rw[if_pos hj,if_pos hj];rfl
    ·rw[if_neg hj,if_neg hj];rfl
   | negSucc j=>rfl
variable {t:TypeId}{P:Program}
def uu (hT:cj P (some t)=true) (h:IH) (a:Option Addr) (n c:Nat):ot P h t (.slice a n c)=some (.int .i64 n):=by
 unfold cj at hT
 simp only at hT
 unfold ot
 split at hT
 ·rename_i hu;simp[hu]
 ·cases hT
@[simp] theorem builtin_len (P:Program) (h:IH) (ts:Array TypeId) (x:Value):builtin P h .len ts [x]=(ts[0]?).bind fun t=>(ot P h t x).map (·,h):=by
 simp only[builtin];cases ts[0]?<;>rfl
theorem builtin_append (P:Program) (h:IH) (s t:TypeId) (x y:Value) (hT:cj P (some t)=true):builtin P h .append #[s,t] [x,y]=append P h s x y:=by
 have e1:(#[s,t]:Array TypeId)[1]?=some t:=rfl
 have e0:(#[s,t]:Array TypeId)[0]?=some s:=rfl
 simp only[builtin,e1,e0,hT,cond_true]
def JC {s:Sem Value} {v:Value} (h:ar P s=some v) (hv:plain v=true):cJ P s=some v:=by simp[cJ,h,hv]
theorem ja {d:TypeDesc} {α:Type} (hd:P.underlying t=some d) (f:TypeDesc→Sem α):ar P ((underlying t).bind f)=ar P (f d):=by
 have e:ar P ((underlying t).bind f)=ar P ((match P.underlying t with|some d=>(pure d:Sem TypeDesc)|none=>stuck "no such type").bind f):=rfl
 rw[e,hd]
 rfl
variable {k:IntKind}
theorem kf {s d:TypeId} {k':IntKind} {n:Int} (hs:(P.underlying s).isSome=true) (hd:P.underlying d=some (.int k')):nP P s d (.int k n)=some (.int k' (k'.wrap n)):=by
 obtain⟨ds,hs⟩:=Option.isSome_iff_exists.1 hs
 refine JC ?_ rfl
 unfold Go.convert
 show ar P (Sem.bind _ _)=_
 rw[ja hs]
 show ar P (Sem.bind _ _)=_
 rw[ja hd]
 cases ds<;>rfl
theorem NN (a b:Nat) (ha:a<2 ^ k.bits) (hb:b<2 ^ k.bits):(BitVec.ofInt k.bits (a:Int) &&& BitVec.ofInt k.bits (b:Int)).toNat=a &&& b:=by
 simp[BitVec.toNat_and,Nat.mod_eq_of_lt ha,Nat.mod_eq_of_lt hb]
section
variable (P:Program) (t:TypeId) (ox oy:Operand)
variable {k:IntKind}
def wU {op:BinOp} {x y:Int} {v:Value} (hv:plain v=true) (hr:ar P (do eqGuard op t ox oy (.int k x) (.int k y);Go.binOp op t (.int k x) (.int k y))=some v):binop P op t ox oy (.int k x) (.int k y)=some v :=
 cX P t ox oy rfl rfl hv hr
theorem kN (k:IntKind) (a b:Int):binop P .and t ox oy (.int k a) (.int k b)=some (.int k (k.wrap (BitVec.ofInt k.bits a &&& BitVec.ofInt k.bits b).toNat)) :=
 wU P t ox oy rfl (by simp[eqGuard,Go.binOp,Op.intBits];rfl)
theorem pZ (k:IntKind) (a b:Int):binop P .or t ox oy (.int k a) (.int k b)=some (.int k (k.wrap (BitVec.ofInt k.bits a ||| BitVec.ofInt k.bits b).toNat)) :=
 wU P t ox oy rfl (by simp[eqGuard,Go.binOp,Op.intBits];rfl)
theorem tR (k:IntKind) (a b:Int):binop P .xor t ox oy (.int k a) (.int k b)=some (.int k (k.wrap (BitVec.ofInt k.bits a ^^^ BitVec.ofInt k.bits b).toNat)) :=
 wU P t ox oy rfl (by simp[eqGuard,Go.binOp,Op.intBits];rfl)
theorem xI (k:IntKind) (a b:Int):binop P .andNot t ox oy (.int k a) (.int k b)=some (.int k (k.wrap (BitVec.ofInt k.bits a &&& ~~~BitVec.ofInt k.bits b).toNat)) :=
 wU P t ox oy rfl (by simp[eqGuard,Go.binOp,Op.intBits];rfl)
variable {n:Nat}
theorem dQ (h:n<2 ^ 64):IntKind.u64.wrap (n:Int)=n:=uK (by omega)
theorem lJ (h:n<2 ^ 63):IntKind.i64.wrap (n:Int)=n:=wrap_i64 (by omega)
theorem KY {a b c:Nat} (h:a<c):a &&& b<c:=Nat.lt_of_le_of_lt Nat.and_le_left h
theorem Rr {a b:Nat} (ha:a<2 ^ n) (hb:b<2 ^ n):a ||| b<2 ^ n:=Nat.or_lt_two_pow ha hb
def Cf (a b:Nat) (ha:a<18446744073709551616) (hb:b<18446744073709551616):binop P .and t ox oy (.int .u64 a) (.int .u64 b)=some (.int .u64 ((a &&& b:Nat):Int)):=by
 rw[kN,NN (k:=.u64) a b ha hb,dQ (KY ha)]
def wE (a b:Nat) (ha:a<18446744073709551616) (hb:b<18446744073709551616):binop P .or t ox oy (.int .u64 a) (.int .u64 b)=some (.int .u64 ((a ||| b:Nat):Int)):=by
 have e:(BitVec.ofInt 64 (a:Int) ||| BitVec.ofInt 64 (b:Int)).toNat=a ||| b:=by simp[Nat.mod_eq_of_lt ha,Nat.mod_eq_of_lt hb]
 rw[pZ,show(BitVec.ofInt IntKind.u64.bits (a:Int) ||| BitVec.ofInt IntKind.u64.bits (b:Int)).toNat=a ||| b from e,dQ (Rr (n:=64) ha hb)]
def OU (a b:Nat):Nat:=a ^^^ (a &&& b)
theorem D9 (a b i:Nat):(OU a b).testBit i=(a.testBit i && !b.testBit i):=by
 simp only[OU,Nat.testBit_xor,Nat.testBit_and]
 cases a.testBit i<;>cases b.testBit i<;>rfl
theorem U1 {a b:Nat} (h:a<2 ^ n):OU a b<2 ^ n:=Nat.xor_lt_two_pow h (Nat.lt_of_le_of_lt Nat.and_le_left h)
variable {a:Int}{j:IntKind}{b:Int}
theorem xw (hb:0≤b):binop P .shr t ox oy (.int k a) (.int j b)=some (.int k (a.fdiv (2 ^ (min b.toNat k.bits)))):=by
 refine cX P t ox oy rfl rfl rfl ?_
 simp[eqGuard,Go.binOp,Op.shift,Int.not_lt.2 hb];rfl
theorem oZ (hb:0≤b):binop P .shl t ox oy (.int k a) (.int j b)=some (.int k (k.wrap (a*2 ^ (min b.toNat k.bits)))):=by
 refine cX P t ox oy rfl rfl rfl ?_
 simp[eqGuard,Go.binOp,Op.shift,Int.not_lt.2 hb];rfl
theorem xy (hb:b≠0):binop P .quo t ox oy (.int k a) (.int k b)=some (.int k (k.wrap (a.tdiv b))):=by
 refine wU P t ox oy rfl ?_
 simp[eqGuard,Go.binOp,Op.intDiv,hb];rfl
theorem kh (hb:b≠0):binop P .rem t ox oy (.int k a) (.int k b)=some (.int k (a.tmod b)):=by
 refine wU P t ox oy rfl ?_
 simp[eqGuard,Go.binOp,Op.intDiv,hb];rfl
end
def wM (P:Program) (b:Bool):(bif plain (.bool b) then cJ P (Op.unary .not (.bool b)) else none)=some (.bool (!b)):=rfl
def Cl (P:Program) (k:IntKind) (n:Int):(bif plain (.int k n) then cJ P (Op.unary .neg (.int k n)) else none)=some (.int k (k.wrap (-n))):=by
 show some (Value.int k (k.wrap (0 - n)))=_
 rw[Int.zero_sub]
end Go.Id
