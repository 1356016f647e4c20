/-
  Weakest preconditions over the ideal machine: what a code does with enough fuel; each step's continuation is kept closed (a congruence rule each), so that the simplifier carries out one step after the other. Weakest preconditions over the ideal machine, second part: what the simplifier needs for one step: slots, numbers, memory; calls, loops.
-/
import Derived.Test.YtnanhedgenokpaaGreatTemperMovesAn
set_option linter.unusedVariables false
set_option linter.unusedSimpArgs false
set_option linter.defProp false
set_option linter.deprecated false
namespace Go.Id
open Go
def E0 (P:Program):Env:=⟨P,fun _ _=>none,fun _=>none⟩
def Tm {α:Type} (o:Nat→Option α) (Q:α→Prop):Prop:=∃a,(∃N,∀n,N≤n→o n=some a)∧Q a
theorem Tm.mono {α:Type} {o:Nat→Option α} {Q R:α→Prop} (h:Tm o Q) (k : ∀a,Q a→R a):Tm o R :=
 let ⟨a,h1,h2⟩:=h;⟨a,h1,k a h2⟩
theorem Tm.of {α:Type} {o:Nat→Option α} {Q:α→Prop} {a:α} (h : ∀n,o n=some a) (q:Q a):Tm o Q:=⟨a,⟨0,fun n _=>h n⟩,q⟩
theorem Tm.of2 {α β:Type} {o:Nat→Option (α×β)} {K:α→β→Prop} {a:α} {b:β} (k:K a b) (h : ∀n,o n=some (a,b)):Tm o fun p=>K p.1 p.2:=⟨(a,b),⟨0,fun n _=>h n⟩,k⟩
theorem Tm.bind {α β:Type} {o:Nat→Option α} {p:Nat→Option β} {Q:β→Prop} (f:α→Nat→Option β) (h:Tm o fun a=>Tm (f a) Q) (hp : ∀n a,o n=some a→p n=f a n):Tm p Q:=by
 obtain⟨a,⟨N,h1⟩,b,⟨M,h2⟩,q⟩:=h
 refine⟨b,⟨max N M,fun n hn=>?_⟩,q⟩
 rw[hp n a (h1 n (Nat.le_trans (Nat.le_max_left _ _) hn)),h2 n (Nat.le_trans (Nat.le_max_right _ _) hn)]
theorem Tm.congr {α:Type} {o p:Nat→Option α} {Q:α→Prop} (h:Tm o Q) (e : ∀n,p n=o n):Tm p Q :=
 let ⟨a,⟨N,h1⟩,h2⟩:=h;⟨a,⟨N,fun n hn=>(e n).trans (h1 n hn)⟩,h2⟩
def Ex {α:Type} (o:Option α) (K:α→Prop):Prop:=∃v,o=some v∧K v
@[congr] theorem TG {α:Type} {o o':Option α} {K:α→Prop} (h:o=o'):Ex o K=Ex o' K:=by rw[h]
@[simp] theorem BU {α:Type} (v:α) (K:α→Prop):Ex (some v) K=K v:=by simp[Ex]
@[simp] theorem TM {α:Type} (K:α→Prop):Ex none K=False:=by simp[Ex]
@[simp] theorem Ra {α β:Type} (o:Option α) (f:α→β) (K:β→Prop):Ex (o.map f) K=Ex o fun v=>K (f v):=by cases o<;>simp[Ex]
theorem Ex.mono {α:Type} {o:Option α} {K L:α→Prop} (h:Ex o K) (k : ∀v,K v→L v):Ex o L:=let ⟨v,a,b⟩:=h;⟨v,a,k v b⟩
def Br (b:Bool) (p q:Prop):Prop:=if b=true then p else q
@[congr] theorem TH {b b':Bool} {p q:Prop} (h:b=b'):Br b p q=Br b' p q:=by rw[h]
@[simp] theorem OF (p q:Prop):Br true p q=p:=by simp[Br]
@[simp] theorem MJ (p q:Prop):Br false p q=q:=by simp[Br]
theorem Br.intro {b:Bool} {p q:Prop} (h1:b=true→p) (h2:b=false→q):Br b p q:=by cases b<;>simp_all [Br]
def Lt (p:Prop):Prop:=p
@[congr] theorem TF {p:Prop}:Lt p=Lt p:=rfl
def WV (P:Program) (fv:Value) (vs:List Value) (h:IH) (K:Value→IH→Prop):Prop:=Tm (fun n=>cI (E0 P) n fv vs h) fun p=>K p.1 p.2
@[congr] theorem TE {P:Program} {fv fv':Value} {vs vs':List Value} {h h':IH} {K:Value→IH→Prop} (a:fv=fv') (b:vs=vs') (c:h=h'):WV P fv vs h K=WV P fv' vs' h' K:=by rw[a,b,c]
theorem WV.mono {P:Program} {fv:Value} {vs:List Value} {h:IH} {K L:Value→IH→Prop} (w:WV P fv vs h K) (k : ∀v h',K v h'→L v h'):WV P fv vs h L:=Tm.mono w fun _ x=>k _ _ x
def wpOp (P:Program) (o:Op) (fr:Fr) (h:IH) (K:Value→IH→Prop):Prop :=
 match o with
 | .move x=>Ex (opd fr x) fun v=>K v h
 | .assign x=>Ex (opd fr x) fun v=>K v h
 | .pick c a b=>Ex (opd fr c) fun c=>Ex (opd fr a) fun a=>Ex (opd fr b) fun b=>c=.bool true∧K a h∨c=.bool false∧K b h
 | .alloc t=>Ex (aE P t) fun z=>K (ptr (2*h.n) 0) (h.new (.cells z 0 none))
 | .box _ x=>Ex (opd fr x) fun v=>K (ptr (2*h.n) 0) (h.new (.cells v.cells.toList 0 none))
 | .load t a=>Ex (opd fr a) fun a=>Ex (load P h t a) fun v=>K v h
 | .store t a x=>Ex (opd fr a) fun a=>Ex (opd fr x) fun x=>Ex (store P h t a x) fun h=>K undef h
 | .binOp op t x y _=>Ex (opd fr x) fun a=>Ex (opd fr y) fun b=>Ex (binop P op t x y a b) fun v=>K v h
 | .fieldAddr t x f=>Ex (opd fr x) fun x=>Ex (iW P t f) fun f=>Ex (asAddr x) fun a=>Ex (aP P f.type) fun n=>n≠0∧K (ptr a.1 (a.2+f.offset)) h
 | .indexAddr t x i=>Ex (opd fr x) fun x=>Ex (opd fr i) fun i=>Ex (indexAddr P t x i) fun v=>K v h
 | .extract x i=>Ex (opd fr x) fun x=>match x with
  | .tuple vs=>Ex vs[i]? fun v=>K v h
  | _=>False
 | .makeFunc fn first cap=>Ex (jV fr first.toList) fun a=>Ex (jV fr cap.toList) fun b=>match fn with
  | .func f=>K (.func (.func f) a.toArray b.toArray) h
  | _=>False
 | .call c=>match c.callee with
  | .value f=>Ex (opd fr f) fun fv=>Ex (jV fr c.args.toList) fun vs=>WV P fv vs h K
  | .builtin b=>Ex (jV fr c.args.toList) fun vs=>Ex (builtin P h b c.argTypes vs) fun r=>K r.1 r.2
  | _=>False
 | o=>Ex (iop P fr o h) fun r=>K r.1 r.2
theorem D9 {P:Program} {o:Op} {fr:Fr} {h:IH} {K:Value→IH→Prop} (w:wpOp P o fr h K):Tm (fun n=>fg (E0 P) (cI (E0 P) n) fr o h) fun p=>K p.1 p.2:=by
 unfold wpOp at w
 split at w
 case h_13 c =>
  split at w
  ·obtain⟨fv,h1,vs,h2,k⟩:=w
   rename_i f hc
   refine Tm.congr k fun n=>?_
   simp[fg,hc,h1,h2]
  ·obtain⟨vs,h1,r,h2,k⟩:=w
   rename_i b hc
   refine Tm.of (a:=r) (fun n=>?_) k
   simp[fg,hc,iop,h1,h2,E0]
  ·exact w.elim
 case h_3 =>
  obtain⟨c,h1,a,h2,b,h3,⟨rfl,k⟩|⟨rfl,k⟩⟩:=w
  ·exact Tm.of (a:=(a,h)) (fun n=>by simp[fg,iop,h1,h2]) k
  ·exact Tm.of (a:=(b,h)) (fun n=>by simp[fg,iop,h1,h3]) k
 case h_11 =>
  obtain⟨x,h1,k⟩:=w
  split at k
  ·obtain⟨v,h2,k⟩:=k
   exact Tm.of (a:=(v,h)) (fun n=>by simp[fg,iop,h1,h2]) k
  ·exact k.elim
 case h_12 =>
  obtain⟨x,h1,y,h2,k⟩:=w
  split at k
  ·exact Tm.of2 k fun n=>by simp[fg,iop,h1,h2]
  ·exact k.elim
 case h_9 =>
  obtain⟨x,h1,f,h2,⟨b,o⟩,h3,n,h4,h5,k⟩:=w
  refine Tm.of2 k fun m=>?_
  have h6:(n == 0)=false:=by simpa using h5
  simp[fg,iop,h1,h2,h3,h4,E0,h6]
 case h_14 =>
  obtain⟨r,h1,k⟩:=w
  refine Tm.of2 (a:=r.1) (b:=r.2) k fun n=>?_
  unfold fg
  split
  ·simp_all
  ·exact h1
 all_goals
  simp only[Ex] at w
  first
   | (obtain⟨a,h1,b,h2,c,h3,k⟩:=w;exact Tm.of2 k fun n=>by simp[fg,iop,h1,h2,h3,E0])
   | (obtain⟨a,h1,b,h2,k⟩:=w;exact Tm.of2 k fun n=>by simp[fg,iop,h1,h2,E0])
   | (obtain⟨a,h1,k⟩:=w;exact Tm.of2 k fun n=>by simp[fg,iop,h1,E0])
def dO (nt:Nat) (fr:Fr) (dst:Option Tmp) (v:Value) (K:Fr→Prop):Prop :=
 match dst with
 | none=>K fr
 | some d=>Br (Nat.blt d nt) (K ((d,v) :: fr)) False
theorem jR {nt:Nat} {fr:Fr} {dst:Option Tmp} {v:Value} {K:Fr→Prop} (w:dO nt fr dst v K) : ∃fr',nU nt fr dst v=some fr'∧K fr':=by
 unfold dO at w
 split at w
 ·exact⟨_,rfl,w⟩
 ·rename_i d
  simp only[nU]
  cases hb:Nat.blt d nt<;>simp[hb] at w ⊢
  exact w
def wpOps (P:Program) (nt:Nat) (all:List Oper):List Oper→Fr→IH→(Fr→IH→Prop)→Prop
 | [],fr,h,K=>K fr h
 | o :: l,fr,h,K=>match o.guard with
  | none=>wpOp P o.op fr h fun v h=>dO nt fr o.dst v fun fr=>wpOps P nt all l fr h K
  | some (j,want)=>Ex ((all[j]?).bind (·.dst)) fun d=>Ex (ah fr d) fun b=>match b with
   | .bool b=>Br (b == want) (wpOp P o.op fr h fun v h=>dO nt fr o.dst v fun fr=>wpOps P nt all l fr h K) (dO nt fr o.dst undef fun fr=>wpOps P nt all l fr h K)
   | .tuple _=>dO nt fr o.dst undef fun fr=>wpOps P nt all l fr h K
   | _=>False
theorem po {P:Program} {nt:Nat} {all:List Oper} {o:Oper} {fr:Fr} {h:IH} {K:Fr→IH→Prop} (hw:bQ all o fr=some true)
  (w:wpOp P o.op fr h fun v h=>dO nt fr o.dst v fun fr=>K fr h):Tm (fun n=>dR (E0 P) (cI (E0 P) n) nt all o fr h) fun p=>K p.1 p.2:=by
 obtain⟨⟨v,h1⟩,⟨N,hN⟩,k⟩:=D9 w
 obtain⟨fr',hp,k⟩:=jR k
 exact⟨(fr',h1),⟨N,fun n hn=>by simp[dR,hw,hN n hn,hp]⟩,k⟩
theorem oa {P:Program} {nt:Nat} {all:List Oper} : ∀{l:List Oper} {fr:Fr} {h:IH} {K:Fr→IH→Prop},wpOps P nt all l fr h K →
  Tm (fun n=>gM (E0 P) (cI (E0 P) n) nt all l fr h) fun p=>K p.1 p.2
 | [],fr,h,K,w=>Tm.of (a:=(fr,h)) (fun _=>rfl) w
 | o :: l,fr,h,K,w=>by
  have fin (s:Tm (fun n=>dR (E0 P) (cI (E0 P) n) nt all o fr h) fun p=>wpOps P nt all l p.1 p.2 K):Tm (fun n=>gM (E0 P) (cI (E0 P) n) nt all (o :: l) fr h) fun p=>K p.1 p.2 :=
   Tm.bind (fun p n=>gM (E0 P) (cI (E0 P) n) nt all l p.1 p.2) (s.mono fun _ x=>oa x) fun n a ha=>by simp[gM,ha]
  unfold wpOps at w
  split at w
  ·rename_i hg
   exact fin (po (by simp[bQ,hg]) w)
  ·rename_i j want hg
   obtain⟨d,h1,b,h2,w⟩:=w
   split at w
   ·rename_i b
    unfold Br at w
    split at w
    ·rename_i hb
     exact fin (po (by simp[bQ,hg,h1,h2,eq_of_beq hb]) w)
    ·rename_i hb
     obtain⟨fr',hp,k⟩:=jR w
     refine fin (Tm.of (a:=(fr',h)) (fun n=>?_) k)
     have hb':(b == want)=false:=by simpa using hb
     simp[dR,bQ,hg,h1,h2,hb',hp]
   ·obtain⟨fr',hp,k⟩:=jR w
    refine fin (Tm.of (a:=(fr',h)) (fun n=>?_) k)
    simp[dR,bQ,hg,h1,h2,hp]
   ·exact w.elim
def cC (P:Program) (nt:Nat) (all:List Oper):List Oper→Fr→IH→List (Fr×IH)→(List (Fr×IH)→Prop)→Prop
 | [],fr,h,tr,K=>K (tr ++ [(fr,h)])
 | o :: l,fr,h,tr,K=>match o.guard with
  | none=>wpOp P o.op fr h fun v h1=>dO nt fr o.dst v fun fr1=>cC P nt all l fr1 h1 (tr ++ [(fr,h)]) K
  | some (j,want)=>Ex ((all[j]?).bind (·.dst)) fun d=>Ex (ah fr d) fun b=>match b with
   | .bool b=>Br (b == want) (wpOp P o.op fr h fun v h1=>dO nt fr o.dst v fun fr1=>cC P nt all l fr1 h1 (tr ++ [(fr,h)]) K)
     (dO nt fr o.dst undef fun fr1=>cC P nt all l fr1 h (tr ++ [(fr,h)]) K)
   | .tuple _=>dO nt fr o.dst undef fun fr1=>cC P nt all l fr1 h (tr ++ [(fr,h)]) K
   | _=>False
theorem pZ {P:Program} {nt:Nat} {all:List Oper} : ∀{l:List Oper} {fr:Fr} {h:IH} {tr:List (Fr×IH)} {K:List (Fr×IH)→Prop},cC P nt all l fr h tr K →
  Tm (fun n=>trace (E0 P) (cI (E0 P) n) nt all l fr h) fun t=>K (tr ++ t)
 | [],fr,h,tr,K,w=>Tm.of (a:=[(fr,h)]) (fun _=>rfl) w
 | o :: l,fr,h,tr,K,w=>by
  have fin (s:Tm (fun n=>dR (E0 P) (cI (E0 P) n) nt all o fr h) fun p=>cC P nt all l p.1 p.2 (tr ++ [(fr,h)]) K):Tm (fun n=>trace (E0 P) (cI (E0 P) n) nt all (o :: l) fr h) fun t=>K (tr ++ t):=by
   refine Tm.bind (fun p n=>(trace (E0 P) (cI (E0 P) n) nt all l p.1 p.2).map ((fr,h) :: ·)) (s.mono fun p x=>?_) fun n a ha=>by simp[trace,ha]
   obtain⟨t,⟨N,hN⟩,k⟩:=pZ x
   exact⟨(fr,h) :: t,⟨N,fun n hn=>by simp[hN n hn]⟩,by simpa using k⟩
  unfold cC at w
  split at w
  ·rename_i hg
   exact fin (po (K:=fun fr1 h1=>cC P nt all l fr1 h1 (tr ++ [(fr,h)]) K) (by simp[bQ,hg]) w)
  ·rename_i j want hg
   obtain⟨d,h1,b,h2,w⟩:=w
   split at w
   ·rename_i b
    unfold Br at w
    split at w
    ·rename_i hb
     exact fin (po (K:=fun fr1 h1=>cC P nt all l fr1 h1 (tr ++ [(fr,h)]) K) (by simp[bQ,hg,h1,h2,eq_of_beq hb]) w)
    ·rename_i hb
     obtain⟨fr',hp,k⟩:=jR w
     refine fin (Tm.of (a:=(fr',h)) (fun n=>?_) k)
     have hb':(b == want)=false:=by simpa using hb
     simp[dR,bQ,hg,h1,h2,hb',hp]
   ·obtain⟨fr',hp,k⟩:=jR w
    refine fin (Tm.of (a:=(fr',h)) (fun n=>?_) k)
    simp[dR,bQ,hg,h1,h2,hp]
   ·exact w.elim
def cD (P:Program) (ops:List Oper) (tr:List (Fr×IH)):List (Nat×List Nat)→Prop
 | []=>True
 | e :: l=>(match ops[e.1]?,tr[e.1]? with
  | some o,some (fr,h)=>match bQ ops o fr with
   | some true => ∀p∈e.2,match tr[p]? with
    | some (_,h')=>gT P fr o.op h h'=true
    | none=>False
   | _=>True
  | _,_=>False)∧cD P ops tr l
theorem nZ {P:Program} {ops:List Oper} {tr:List (Fr×IH)} : ∀{l:List (Nat×List Nat)},cD P ops tr l→steady P ops tr l=true
 | [],_=>rfl
 | e :: l,w=>by
  unfold cD at w
  obtain⟨w1,w2⟩:=w
  have:=nZ w2
  simp only[steady,List.all_cons,Bool.and_eq_true] at this ⊢
  refine⟨?_,this⟩
  split at w1
  ·rename_i o fr h ho ht
   simp only[ho,ht]
   split at w1
   ·rename_i hw
    simp only[hw,List.all_eq_true]
    intro p hp
    have:=w1 p hp
    split at this
    ·rename_i h' hh;simp[hh,this]
    ·exact this.elim
   ·rename_i hne
    split
    ·rename_i heq;exact absurd heq hne
    ·rfl
  ·exact w1.elim
def Ef (tr:List (Fr×IH)) (n:Nat) (K:Fr→IH→Prop):Prop:=Ex tr[n]? fun p=>K p.1 p.2
def uQ (P:Program) (fn:FuncId) (nt:Nat) (rd:Option Nat) (b:Code) (fr:Fr) (h:IH) (Q:bd→Fr→IH→Prop):Prop :=
 Tm (fun n=>evC (E0 P) (cI (E0 P) n) fn nt rd n (.loop b) fr h) fun p=>Q p.1 p.2.1 p.2.2
@[congr] theorem PE {P:Program} {fn:FuncId} {nt:Nat} {rd:Option Nat} {b:Code} {fr fr':Fr} {h h':IH} {Q:bd→Fr→IH→Prop} (e1:fr=fr') (e2:h=h'):uQ P fn nt rd b fr h Q=uQ P fn nt rd b fr' h' Q:=by rw[e1,e2]
def pf (P:Program) (fn:FuncId) (nt:Nat) (rd:Option Nat) (f:Operand) (ps:Array Tmp) (a b:Code) (fr:Fr) (h:IH) (Q:bd→Fr→IH→Prop):Prop :=
 Tm (fun n=>jK (E0 P) (cI (E0 P) n) fn nt rd f ps.toList a b fr h) fun p=>Q p.1 p.2.1 p.2.2
@[congr] theorem OB {P:Program} {fn:FuncId} {nt:Nat} {rd:Option Nat} {f:Operand} {ps:Array Tmp} {a b:Code} {fr fr':Fr} {h h':IH} {Q:bd→Fr→IH→Prop} (e1:fr=fr') (e2:h=h') :
  pf P fn nt rd f ps a b fr h Q=pf P fn nt rd f ps a b fr' h' Q:=by rw[e1,e2]
def F2 (P:Program) (nt:Nat) (ops:List Oper) (fr:Fr) (h:IH) (K:Fr→IH→Prop):Prop :=
 ni ops=true∧cC P nt ops ops fr h [] fun tr=>cD P ops tr (zy ops)∧Ef tr ops.length K
def wpC (P:Program) (fn:FuncId) (nt:Nat) (rd:Option Nat):Code→Fr→IH→(bd→Fr→IH→Prop)→Prop
 | .skip,fr,h,Q=>Q .normal fr h
 | .label _,fr,h,Q=>Q .normal fr h
 | .region _ ops draw,fr,h,Q=>match draw with
  | false=>wpOps P nt ops.toList ops.toList fr h (Q .normal)
  | true=>(fG ops.toList=true→wpOps P nt ops.toList ops.toList fr h (Q .normal))∧(fG ops.toList=false→F2 P nt ops.toList fr h (Q .normal))
 | .seq a b,fr,h,Q=>wpC P fn nt rd a fr h fun e fr h=>match e with
  | .normal=>wpC P fn nt rd b fr h Q
  | .exit i=>Q (.exit i) fr h
  | .ret=>Q .ret fr h
 | .cond c a b,fr,h,Q=>Ex (opd fr c) fun c=>match c with
  | .bool c=>Br c (wpC P fn nt rd a fr h Q) (wpC P fn nt rd b fr h Q)
  | _=>False
 | .block id b,fr,h,Q=>wpC P fn nt rd b fr h fun e fr h=>match e with
  | .exit i=>Br (i == id) (Q .normal fr h) (Q (.exit i) fr h)
  | .normal=>Q .normal fr h
  | .ret=>Q .ret fr h
 | .loop b,fr,h,Q=>uQ P fn nt rd b fr h Q
 | .scope b,fr,h,Q=>wpC P fn nt rd b fr h Q
 | .rangeFunc f ps a b,fr,h,Q=>pf P fn nt rd f ps a b fr h Q
 | .exit i,fr,h,Q=>Q (.exit i) fr h
 | .ret,fr,h,Q=>Q .ret fr h
 | .goto _,_,_,_=>False
 | .refuse _,_,_,_=>False
abbrev TmC (P:Program) (fn:FuncId) (nt:Nat) (rd:Option Nat) (c:Code) (fr:Fr) (h:IH) (Q:bd→Fr→IH→Prop):Prop :=
 Tm (fun n=>evC (E0 P) (cI (E0 P) n) fn nt rd n c fr h) fun p=>Q p.1 p.2.1 p.2.2
theorem Bv (P:Program) (fn:FuncId) (id:Nat) (fr:Fr):jz (E0 P) fn id fr=fr:=rfl
theorem dY {P:Program} {fn:FuncId} {nt:Nat} {rd:Option Nat} : ∀{c:Code} {fr:Fr} {h:IH} {Q:bd→Fr→IH→Prop},wpC P fn nt rd c fr h Q→TmC P fn nt rd c fr h Q
 | .skip,fr,h,Q,w=>Tm.of (a:=(.normal,fr,h)) (fun _=>rfl) w
 | .label _,fr,h,Q,w=>Tm.of (a:=(.normal,fr,h)) (fun _=>rfl) w
 | .region id ops draw,fr,h,Q,w=>by
  cases draw with
  | false =>
   obtain⟨p,⟨N,h1⟩,k⟩:=oa w
   exact⟨(.normal,p.1,p.2),⟨N,fun n hn=>by have:=h1 n hn;simp[evC,Bv,this]⟩,k⟩
  | true =>
   cases hc:fG ops.toList with
   | true =>
    obtain⟨p,⟨N,h1⟩,k⟩:=oa (w.1 hc)
    exact⟨(.normal,p.1,p.2),⟨N,fun n hn=>by have:=yF hc (h1 n hn);simp[evC,Bv,this]⟩,k⟩
   | false =>
    obtain⟨ho,w⟩:=w.2 hc
    obtain⟨tr,⟨N,h1⟩,hs,p,hp,k⟩:=pZ w
    refine⟨(.normal,p.1,p.2),⟨N,fun n hn=>?_⟩,k⟩
    have h2:=h1 n hn
    simp only[List.nil_append,Array.length_toList] at hs hp
    simp only at h2
    have hs2:=wh h2 (nZ hs)
    simp[evC,Bv,jS,h2,ho,show(E0 P).P=P from rfl,show steady P ops.toList tr (yI ops.toList)=true from hs2,hp]
 | .seq a b,fr,h,Q,w=>by
  have w1:=dY (c:=a) w
  obtain⟨⟨e,fr1,h1⟩,⟨N,hN⟩,k⟩:=w1
  cases e with
  | normal =>
   obtain⟨r,⟨M,hM⟩,k⟩:=dY (c:=b) k
   refine⟨r,⟨max N M,fun n hn=>?_⟩,k⟩
   have e1:=hN n (Nat.le_trans (Nat.le_max_left _ _) hn)
   have e2:=hM n (Nat.le_trans (Nat.le_max_right _ _) hn)
   simp[evC,e1,e2]
  | exit i=>exact⟨(.exit i,fr1,h1),⟨N,fun n hn=>by have:=hN n hn;simp[evC,this]⟩,k⟩
  | ret=>exact⟨(.ret,fr1,h1),⟨N,fun n hn=>by have:=hN n hn;simp[evC,this]⟩,k⟩
 | .cond c a b,fr,h,Q,w=>by
  obtain⟨v,hv,w⟩:=w
  split at w
  ·rename_i c
   cases c with
   | true =>
    obtain⟨r,⟨M,hM⟩,k⟩:=dY (c:=a) (by simpa using w)
    exact⟨r,⟨M,fun n hn=>by have:=hM n hn;simp[evC,hv,this]⟩,k⟩
   | false =>
    obtain⟨r,⟨M,hM⟩,k⟩:=dY (c:=b) (by simpa using w)
    exact⟨r,⟨M,fun n hn=>by have:=hM n hn;simp[evC,hv,this]⟩,k⟩
  ·exact w.elim
 | .block id b,fr,h,Q,w=>by
  obtain⟨⟨e,fr1,h1⟩,⟨N,hN⟩,k⟩:=dY (c:=b) w
  cases e with
  | normal=>exact⟨(.normal,fr1,h1),⟨N,fun n hn=>by have:=hN n hn;simp[evC,this]⟩,k⟩
  | ret=>exact⟨(.ret,fr1,h1),⟨N,fun n hn=>by have:=hN n hn;simp[evC,this]⟩,k⟩
  | exit i =>
   cases hi:(i == id) with
   | true=>exact⟨(.normal,fr1,h1),⟨N,fun n hn=>by have:=hN n hn;simp[evC,this,hi]⟩,by simpa [hi] using k⟩
   | false=>exact⟨(.exit i,fr1,h1),⟨N,fun n hn=>by have:=hN n hn;simp[evC,this,hi]⟩,by simpa [hi] using k⟩
 | .loop b,fr,h,Q,w=>w
 | .scope b,fr,h,Q,w=>by
  obtain⟨r,⟨M,hM⟩,k⟩:=dY (c:=b) w
  exact⟨r,⟨M,fun n hn=>by have:=hM n hn;simp[evC,this]⟩,k⟩
 | .rangeFunc f ps a b,fr,h,Q,w=>Tm.congr w fun n=>by simp[evC]
 | .exit i,fr,h,Q,w=>Tm.of (a:=(.exit i,fr,h)) (fun _=>rfl) w
 | .ret,fr,h,Q,w=>Tm.of (a:=(.ret,fr,h)) (fun _=>rfl) w
 | .goto _,_,_,_,w=>w.elim
 | .refuse _,_,_,_,w=>w.elim
end Go.Id

namespace Go.Id
open Go
@[simp] theorem SM (t:Nat):ah [] t=none:=rfl
@[simp] theorem mK (s:Nat) (v:Value) (r:Fr) (t:Nat):ah ((s,v) :: r) t=if s=t then some v else ah r t:=by
 simp[ah,cond_eq_ite]
@[simp] theorem GJ (fr:Fr) (t:Nat):opd fr (.tmp t)=ah fr t:=rfl
@[simp] theorem CT (fr:Fr) (f:FuncId):opd fr (.func f)=some (.func (.func f) #[] #[]):=rfl
theorem wW (fr:Fr) (g:Nat) (h:g<4294967296):opd fr (.global g)=some (ptr (2*g+1) 0):=by
 have:Nat.blt g 4294967296=true:=by simp only[Nat.blt,Nat.ble_eq];exact h
 simp only[opd,this,cond_true];rfl
@[simp] theorem qi (fr:Fr) (k:IntKind) (n:Int):opd fr (.const (.int k n))=some (.int k n):=rfl
@[simp] theorem oG (fr:Fr) (b:Bool):opd fr (.const (.bool b))=some (.bool b):=rfl
@[simp] theorem mz (fr:Fr) (b:ByteArray):opd fr (.const (.string b))=some (.string b):=rfl
@[simp] theorem lW (fr:Fr):opd fr (.const .nilFunc)=some .nilFunc:=rfl
@[simp] theorem lE (fr:Fr):opd fr (.const (.slice none 0 0))=some (.slice none 0 0):=rfl
@[simp] theorem mA (fr:Fr):opd fr (.const (.pointer none))=some (.pointer none):=rfl
@[simp] theorem mB (fr:Fr):opd fr (.const (.map none))=some (.map none):=rfl
@[simp] theorem CR (fr:Fr):jV fr []=some []:=rfl
@[simp] theorem zF (fr:Fr) (x:Operand) (l:List Operand):jV fr (x :: l)=(opd fr x).bind fun v=>(jV fr l).map (v :: ·):=by
 simp only[jV];cases opd fr x<;>cases jV fr l<;>rfl
@[simp] theorem ux (fr:Fr):partsOf fr []=some []:=rfl
@[simp] theorem se (fr:Fr) (i:Nat) (x:Operand) (l:List (Nat×Operand)):partsOf fr ((i,x) :: l)=(opd fr x).bind fun v=>(partsOf fr l).map ((i,v) :: ·):=by
 simp only[partsOf];cases opd fr x<;>cases partsOf fr l<;>rfl
@[simp] theorem uz (fr:Fr):fm fr none=some none:=rfl
@[simp] theorem uy (fr:Fr) (x:Operand):fm fr (some x)=(opd fr x).map some:=rfl
@[simp] theorem uF (i:Nat):jc i [] = []:=rfl
@[simp] theorem sN (i:Nat) (v:Value) (l:List Value):jc i (v :: l)=(i,v) :: jc (i+1) l:=rfl
@[simp] theorem PK (nt:Nat) (fr:Fr) (v:Value) (K:Fr→Prop):dO nt fr none v K=K fr:=rfl
@[simp] theorem D8 (nt:Nat) (fr:Fr) (d:Nat) (v:Value) (K:Fr→Prop) (hd:d<nt):dO nt fr (some d) v K=K ((d,v) :: fr):=by
 have:Nat.blt d nt=true:=by simp only[Nat.blt,Nat.ble_eq];exact hd
 simp[dO,this]
@[congr] theorem OH {nt:Nat} {fr fr':Fr} {d:Option Tmp} {v v':Value} {K:Fr→Prop} (a:fr=fr') (b:v=v'):dO nt fr d v K=dO nt fr' d v' K:=by rw[a,b]
@[congr] theorem OI {P:Program} {nt:Nat} {all l:List Oper} {fr fr':Fr} {h h':IH} {K:Fr→IH→Prop} (a:fr=fr') (b:h=h'):wpOps P nt all l fr h K=wpOps P nt all l fr' h' K:=by rw[a,b]
@[congr] theorem MK {P:Program} {nt:Nat} {all l:List Oper} {fr fr':Fr} {h h':IH} {tr:List (Fr×IH)} {K:List (Fr×IH)→Prop} (a:fr=fr') (b:h=h'):cC P nt all l fr h tr K=cC P nt all l fr' h' tr K:=by rw[a,b]
@[congr] theorem PL {P:Program} {o:Op} {fr fr':Fr} {h h':IH} {K:Value→IH→Prop} (a:fr=fr') (b:h=h'):wpOp P o fr h K=wpOp P o fr' h' K:=by rw[a,b]
@[congr] theorem Rd {P:Program} {fn:FuncId} {nt:Nat} {rd:Option Nat} {c:Code} {fr fr':Fr} {h h':IH} {Q:bd→Fr→IH→Prop} (a:fr=fr') (b:h=h'):wpC P fn nt rd c fr h Q=wpC P fn nt rd c fr' h' Q:=by rw[a,b]
section
variable (P:Program) (fr:Fr) (h:IH) (K:Value→IH→Prop)
theorem HK (c a b:Operand):wpOp P (.pick c a b) fr h K=Ex (opd fr c) fun c=>Ex (opd fr a) fun a=>Ex (opd fr b) fun b=>c=.bool true∧K a h∨c=.bool false∧K b h:=rfl
def fieldAt (P:Program) (t:TypeId) (f:Nat):Option Nat:=(iW P t f).bind fun d=>(aP P d.type).bind fun n=>if n=0 then none else some d.offset
theorem vK (t:TypeId) (x:Operand) (f:Nat):wpOp P (.fieldAddr t x f) fr h K=Ex (opd fr x) fun x=>Ex (asAddr x) fun a=>Ex (fieldAt P t f) fun off=>K (ptr a.1 (a.2+off)) h:=by
 simp only[wpOp,fieldAt,Ex,eq_iff_iff]
 constructor
 ·rintro⟨x,h1,d,h2,a,h3,n,h4,h5,k⟩
  exact⟨x,h1,a,h3,d.offset,by simp[h2,h4,h5],k⟩
 ·rintro⟨x,h1,a,h3,off,h2,k⟩
  cases hd:iW P t f with
  | none=>simp[hd] at h2
  | some d =>
   cases hn:aP P d.type with
   | none=>simp[hd,hn] at h2
   | some n =>
    simp only[hd,hn,Option.bind_some] at h2
    split at h2
    ·cases h2
    ·rename_i h0;cases h2;exact⟨x,h1,d,rfl,a,h3,n,hn,h0,k⟩
theorem OE {α β:Type} (o:Option α) (f:α→Option β) (K:β→Prop):Ex (o.bind f) K=Ex o fun v=>Ex (f v) K:=by cases o<;>simp[Ex]
theorem HJ (op:UnOp) (t:TypeId) (x:Operand):wpOp P (.unOp op t x) fr h K=Ex (opd fr x) fun v=>Ex (bif plain v then cG P (Op.unary op v) else none) fun v=>K v h:=by
 show Ex (iop P fr (.unOp op t x) h) _=_
 simp only[iop]
 cases opd fr x with
 | none=>simp
 | some v=>cases hp:plain v<;>simp[hp]
def sX (P:Program) (s d:TypeId) (v:Value):Option Value:=bif plain v then cG P (Go.convert s d v) else none
theorem AM (s d:TypeId) (x:Operand):wpOp P (.convert s d x) fr h K=Ex (opd fr x) fun v=>Ex (sX P s d v) fun v=>K v h:=by
 show Ex (iop P fr (.convert s d x) h) _=_
 simp only[iop,sX]
 cases opd fr x with
 | none=>simp
 | some v=>cases hp:plain v<;>simp[hp]
theorem vJ (t:TypeId) (l c:Operand):wpOp P (.makeSlice t l c) fr h K=Ex (opd fr l) fun l=>Ex (opd fr c) fun c=>Ex (makeSlice P h t l c) fun r=>K r.1 r.2:=by
 show Ex (iop P fr (.makeSlice t l c) h) _=_
 simp only[iop]
 cases opd fr l<;>cases opd fr c<;>simp
theorem uV (t:TypeId) (n:Nat) (ps:Array (Nat×Operand)):wpOp P (.buildSlice t n ps) fr h K=Ex (partsOf fr ps.toList) fun ps=>Ex (buildSlice P h t n ps) fun r=>K r.1 r.2:=by
 show Ex (iop P fr (.buildSlice t n ps) h) _=_
 simp only[iop]
 cases partsOf fr ps.toList<;>simp
theorem Eb (t:TypeId) (x:Operand) (lo hi mx:Option Operand):wpOp P (.slice t x lo hi mx) fr h K=Ex (opd fr x) fun x=>Ex (fm fr lo) fun lo=>Ex (fm fr hi) fun hi=>Ex (fm fr mx) fun mx=>Ex (di P h t x lo hi mx) fun v=>K v h:=by
 show Ex (iop P fr (.slice t x lo hi mx) h) _=_
 simp only[iop]
 cases opd fr x with
 | none=>simp
 | some x=>cases fm fr lo with
  | none=>simp
  | some lo=>cases fm fr hi with
   | none=>simp
   | some hi=>cases fm fr mx<;>simp
def fH (P:Program) (t:TypeId) (ps:List (Nat×Value)):Option Value :=
 (aE P t).bind fun z=>bif cu P t then (cz (placeOf P t) z ps).map fun cs=>.agg cs.toArray else none
theorem Ee (t:TypeId) (ps:Array (Nat×Operand)):wpOp P (.build t ps) fr h K=Ex (partsOf fr ps.toList) fun ps=>Ex (fH P t ps) fun v=>K v h:=by
 show Ex (iop P fr (.build t ps) h) _=_
 simp only[iop,fH]
 cases aE P t<;>cases partsOf fr ps.toList<;>cases cu P t<;>simp
def qU (P:Program) (t:TypeId) (f:Nat) (x:Value):Option Value :=
 match x with
 | .agg cs=>(iW P t f).bind fun d=>partOf P d.type cs d.offset
 | _=>none
theorem Ed (t:TypeId) (x:Operand) (f:Nat):wpOp P (.field t x f) fr h K=Ex (opd fr x) fun x=>Ex (qU P t f x) fun v=>K v h:=by
 show Ex (iop P fr (.field t x f) h) _=_
 simp only[iop]
 cases hx:opd fr x with
 | none=>simp
 | some v =>
  cases v<;>(try (simp[qU];done))
  cases hf:iW P t f with
  | none=>simp[qU,hf]
  | some d=>simp[qU,hf]
theorem yw (x:Operand):wpOp P (.nilCheck x) fr h K=Ex (opd fr x) fun x=>match x with
  | .pointer (some a)=>K (.pointer (some a)) h
  | .func (.func f) xs ys=>K (.func (.func f) xs ys) h
  | .func (.yield f) xs ys=>K (.func (.yield f) xs ys) h
  | .map r=>K (.map r) h
  | _=>False:=by
 show Ex (iop P fr (.nilCheck x) h) _=_
 simp only[iop]
 cases hx:opd fr x with
 | none=>simp
 | some v =>
  cases v with
  | pointer a=>cases a<;>simp
  | func f xs ys=>cases f<;>simp
  | _=>simp
theorem B6 (t:TypeId) (m k:Operand) (ok:Bool):wpOp P (.lookup t m k ok) fr h K=Ex (opd fr m) fun m=>Ex (opd fr k) fun k=>Ex (lookup P h t m k ok) fun v=>K v h:=by
 show Ex (iop P fr (.lookup t m k ok) h) _=_
 simp only[iop]
 cases opd fr m<;>cases opd fr k<;>simp
theorem oc (t:TypeId) (m k v:Operand):wpOp P (.mapUpdate t m k v) fr h K=Ex (opd fr m) fun m=>Ex (opd fr k) fun k=>Ex (opd fr v) fun v=>Ex (mapUpdate P h t m k v) fun h=>K undef h:=by
 show Ex (iop P fr (.mapUpdate t m k v) h) _=_
 simp only[iop]
 cases opd fr m<;>cases opd fr k<;>cases opd fr v<;>simp
theorem Ca (t:TypeId) (m k v:Operand):wpOp P (.insert t m k v) fr h K=Ex (opd fr m) fun m=>Ex (opd fr k) fun k=>Ex (opd fr v) fun v=>Ex (mapUpdate P h t m k v) fun h=>K undef h:=oc P fr h K t m k v
theorem AL (t:TypeId):wpOp P (.makeMap t none) fr h K=K (.map (some (2*h.n))) (h.new (.map [])):=by
 show Ex (iop P fr (.makeMap t none) h) _=_
 simp[iop]
def qP (P:Program) (t:TypeId) (x i:Value):Option Value :=
 match x with
 | .agg cs=>match P.underlying t,idxOf i with
   | some (.array n e),some (.ofNat j)=>bif Nat.blt j n then (aP P e).bind fun size=>partOf P e cs (j*size) else none
   | _,_=>none
 | .string s=>bif plain i then cG P (Instr.index t (.string s) i) else none
 | _=>none
theorem Ec (t:TypeId) (x i:Operand):wpOp P (.index t x i) fr h K=Ex (opd fr x) fun x=>Ex (opd fr i) fun i=>Ex (qP P t x i) fun v=>K v h:=by
 show Ex (iop P fr (.index t x i) h) _=_
 simp only[iop]
 cases hx:opd fr x with
 | none=>simp
 | some v =>
  cases hi:opd fr i with
  | none=>cases v<;>simp
  | some i =>
   cases v<;>(try (simp[qP];done))
   ·simp only[qP,BU]
    cases hp:plain i<;>simp[]
   ·rename_i cs
    simp only[qP,BU]
    cases hu:P.underlying t with
    | none=>simp
    | some d =>
     cases hi':idxOf i with
     | none=>cases d<;>simp
     | some z =>
      cases d<;>(try (simp;done))
      cases z with
      | negSucc z=>simp
      | ofNat j =>
       rename_i n e
       simp only
       cases hb:Nat.blt j n<;>simp
       cases aP P e<;>simp
end
section
variable (P:Program) (t:TypeId) (ox oy:Operand) (k:IntKind) (a b:Int)
theorem cZ {op:BinOp} {x y v:Value} (hx:plain x=true) (hy:plain y=true) (hv:plain v=true) (hr:ar P (do eqGuard op t ox oy x y;Go.binOp op t x y)=some v):binop P op t ox oy x y=some v:=by
 simp[binop,hx,hy,cG,hr,hv]
@[simp] theorem AB:binop P .add t ox oy (.int k a) (.int k b)=some (.int k (k.wrap (a+b))) :=
 cZ P t ox oy rfl rfl rfl (by simp[eqGuard,Go.binOp,Op.intArith];rfl)
@[simp] theorem Aq:binop P .sub t ox oy (.int k a) (.int k b)=some (.int k (k.wrap (a - b))) :=
 cZ P t ox oy rfl rfl rfl (by simp[eqGuard,Go.binOp,Op.intArith];rfl)
@[simp] theorem Av:binop P .mul t ox oy (.int k a) (.int k b)=some (.int k (k.wrap (a*b))) :=
 cZ P t ox oy rfl rfl rfl (by simp[eqGuard,Go.binOp,Op.intArith];rfl)
@[simp] theorem AA:binop P .eql t ox oy (.int k a) (.int k b)=some (.bool (a == b)) :=
 cZ P t ox oy rfl rfl rfl (by simp[eqGuard,Go.binOp,Op.intCmp];rfl)
@[simp] theorem Au:binop P .neq t ox oy (.int k a) (.int k b)=some (.bool (a != b)) :=
 cZ P t ox oy rfl rfl rfl (by simp[eqGuard,Go.binOp,Op.intCmp];rfl)
@[simp] theorem Aw:binop P .lss t ox oy (.int k a) (.int k b)=some (.bool (decide (a<b))) :=
 cZ P t ox oy rfl rfl rfl (by simp[eqGuard,Go.binOp,Op.intCmp];rfl)
@[simp] theorem Ax:binop P .leq t ox oy (.int k a) (.int k b)=some (.bool (decide (a≤b))) :=
 cZ P t ox oy rfl rfl rfl (by simp[eqGuard,Go.binOp,Op.intCmp];rfl)
@[simp] theorem Ay:binop P .gtr t ox oy (.int k a) (.int k b)=some (.bool (decide (b<a))) :=
 cZ P t ox oy rfl rfl rfl (by simp[eqGuard,Go.binOp,Op.intCmp];rfl)
@[simp] theorem Az:binop P .geq t ox oy (.int k a) (.int k b)=some (.bool (decide (b≤a))) :=
 cZ P t ox oy rfl rfl rfl (by simp[eqGuard,Go.binOp,Op.intCmp];rfl)
end
end Go.Id
