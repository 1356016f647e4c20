/-
  The ideal machine: one operation and a region in the order of its text, on the model's mac
-/
import Derived.Test.YtnnmjocmapilaaaGreatOutlierValidAf
set_option linter.unusedVariables false
set_option linter.unusedSimpArgs false
set_option linter.defProp false
set_option linter.deprecated false
namespace Go.Id
open Go Go.RowKit
def on (b:Frame) (tmps:Array Value) (todo:List Item) (ds:List Deferred):Frame :=
 { fn:=b.fn,tmps,todo,defers:=ds,mode:=.run,kind:=b.kind,roundOf:=b.roundOf }
def hP (tmps:Array Value):Operand→Value
 | .tmp t=>tmps.getD t undef
 | .const v=>v
 | .global g=>.pointer (some ⟨g,0,none⟩)
 | .func f=>.func (.func f) #[] #[]
theorem D8 (b:Frame) (tmps:Array Value) (todo:List Item) (ds:List Deferred):(on b tmps todo ds).eval=hP tmps:=by
 funext x;cases x<;>rfl
theorem rJ {B:Nat} {w0:World} {m:Mp} {h:IH} {w:World} (R:Rel B w0 m h w) {fr:Fr} {tmps:Array Value} (hf:dG m fr tmps) : ∀x v,opd fr x=some v→aD m v (hP tmps x):=by
 intro x v hx
 cases x with
 | tmp t =>
  simp only[opd] at hx
  obtain⟨v',h1,h2⟩:=hf t v hx
  simp only[hP,Array.getD_eq_getD_getElem?,h1,Option.getD_some]
  exact h2
 | const u =>
  simp only[opd,cond_eq_ite] at hx
  by_cases hp:plain u=true
  ·rw[if_pos hp] at hx;cases hx;exact .bP hp
  ·rw[if_neg hp] at hx;cases hx
 | global g =>
  simp only[opd,cond_eq_ite,Nat.blt,Nat.ble_eq] at hx
  split at hx
  case isFalse=>cases hx
  rename_i hg
  cases hx
  have:=aD.ptr (m:=m) (o:=0) (R.odd g hg)
  simpa [hP] using this
 | func f =>
  simp only[opd] at hx;cases hx
  exact aD.DX rfl (.nil m) (.nil m)
section
variable {P:Program} {b:Frame} {tmps:Array Value} {ds:List Deferred} {k:List Item} {cs:List Frame} {w:World}
theorem SM:step P (lone (on b tmps (.code .skip :: k) ds) cs w)=.next (lone (on b tmps k ds) cs w):=step_lone_go (by simp[stepG,stepG.exec,on])
theorem Po {l:Nat}:step P (lone (on b tmps (.code (.label l) :: k) ds) cs w)=.next (lone (on b tmps k ds) cs w):=step_lone_go (by simp[stepG,stepG.exec,on])
theorem HU {id:Nat}:step P (lone (on b tmps (.inBlock id :: k) ds) cs w)=.next (lone (on b tmps k ds) cs w):=step_lone_go (by simp[stepG,stepG.exec,on])
theorem HT {c:Code}:step P (lone (on b tmps (.inScope c :: k) ds) cs w)=.next (lone (on b tmps k ds) cs w):=step_lone_go (by simp[stepG,stepG.exec,on])
theorem qo {x y:Code}:step P (lone (on b tmps (.code (.seq x y) :: k) ds) cs w)=.next (lone (on b tmps (.code x :: .code y :: k) ds) cs w):=step_lone_go (by simp[stepG,stepG.exec,on])
theorem Kd {c:Operand} {x y:Code} {t:Bool} (h:hP tmps c=.bool t) :
  step P (lone (on b tmps (.code (.cond c x y) :: k) ds) cs w)=.next (lone (on b tmps (.code (if t then x else y) :: k) ds) cs w) :=
 step_lone_go (by
  have:=congrFun (D8 b tmps (.code (.cond c x y) :: k) ds) c
  simp only[on] at this
  simp[stepG,stepG.exec,on,this,h])
theorem uo {id:Nat} {c:Code}:step P (lone (on b tmps (.code (.block id c) :: k) ds) cs w)=.next (lone (on b tmps (.code c :: .inBlock id :: k) ds) cs w):=step_lone_go (by simp[stepG,stepG.exec,on])
theorem y9 {c:Code}:step P (lone (on b tmps (.code (.scope c) :: k) ds) cs w)=.next (lone (on b tmps (.code c :: .inScope c :: k) ds) cs w):=step_lone_go (by simp[stepG,stepG.exec,on])
theorem Kc {c:Code}:step P (lone (on b tmps (.code (.loop c) :: k) ds) cs w)=.next (lone (on b tmps (.code c :: .inLoop c :: k) ds) cs w):=step_lone_go (by simp[stepG,stepG.exec,on])
theorem Bx {c:Code}:step P (lone (on b tmps (.inLoop c :: k) ds) cs w)=.next (lone (on b tmps (.code c :: .inLoop c :: k) ds) cs w):=step_lone_go (by simp[stepG,stepG.exec,on])
theorem SN {id:Nat} {k':List Item} (h:exitTo id k=some k'):step P (lone (on b tmps (.code (.exit id) :: k) ds) cs w)=.next (lone (on b tmps k' ds) cs w):=step_lone_go (by simp[stepG,stepG.exec,on,h])
theorem Bw {id:Nat} {ops:Array Oper}:step P (lone (on b tmps (.code (.region id ops false) :: k) ds) cs w)=.next (lone (on b tmps (.inRegion ops (List.range ops.size) :: k) ds) cs w) :=
 step_lone_go (by simp[stepG,stepG.exec,on])
theorem zd {id:Nat} {ops:Array Oper}:step P (lone (on b tmps (.code (.region id ops true) :: k) ds) cs w) =
  .next (lone (on b tmps (.inRegion ops (Region.schedule (P.follows .mixedOrders) ops (w.tape w.drawn (.order b.fn id))) :: k) ds) cs { w with drawn:=w.drawn+1 }) :=
 step_lone_go (by simp[stepG,stepG.exec,on,choose,Sem.run,Question.forced,Question.cut])
theorem nj {ops:Array Oper}:step P (lone (on b tmps (.inRegion ops [] :: k) ds) cs w)=.next (lone (on b tmps k ds) cs w):=step_lone_go (by simp[stepG,stepG.exec,on])
def ns (tmps:Array Value) (dst:Option Tmp) (v:Value):Array Value :=
 match dst with
 | some d=>tmps.setIfInBounds d v
 | none=>tmps
theorem rP {ops:Array Oper} {i:Nat} {o:Oper} {rest:List Nat} (ho:ops[i]?=some o) (v:Value):(on b tmps (.inRegion ops (i :: rest) :: k) ds).finish v=on b (ns tmps o.dst v) (.inRegion ops rest :: k) ds:=by
 unfold Frame.finish on
 simp only[ho,Option.bind_some]
 cases o.dst<;>rfl
theorem Pn {ops:Array Oper} {i:Nat} {o:Oper} {rest:List Nat} (ho:ops[i]?=some o) (hw:Region.wanted o (yielded ops tmps)=false) :
  step P (lone (on b tmps (.inRegion ops (i :: rest) :: k) ds) cs w)=.next (lone (on b (ns tmps o.dst undef) (.inRegion ops rest :: k) ds) cs w):=by
 rw[←rP ho]
 exact step_lone_go (by
  have h':((ops[i]?).map (Region.wanted · (yielded ops tmps))).getD false=false:=by simp[ho,hw]
  simp only[on] at *
  simp[stepG,stepG.exec,h'])
theorem uj {ops:Array Oper} {i:Nat} {o:Oper} {rest:List Nat} (ho:ops[i]?=some o) (hw:Region.wanted o (yielded ops tmps)=true) (hnd : ∀c,o.op≠.defer c) :
  stepG P true { frame:=on b tmps (.inRegion ops (i :: rest) :: k) ds,callers:=cs,status:=.running,dying:=none } w =
   stepG.apply P true (on b tmps (.inRegion ops (i :: rest) :: k) ds) cs none (execOp (hP tmps) o) w:=by
 have he:=D8 b tmps (.inRegion ops (i :: rest) :: k) ds
 simp only[on] at he
 simp only[stepG,stepG.exec,on,ho,Option.map_some,hw,Option.getD_some,if_true,stepG.oper,Frame.oper?,he]
 cases hr:b.roundOf with
 | none=>simp
 | some l =>
  cases hop:o.op<;>simp_all
theorem qk {ops:Array Oper} {i:Nat} {o:Oper} {rest:List Nat} {v:Value} {w':World} (ho:ops[i]?=some o) (hw:Region.wanted o (yielded ops tmps)=true) (hnd : ∀c,o.op≠.defer c)
  (hr:(execOp (hP tmps) o).run P w=.ok (.value v) w') :
  step P (lone (on b tmps (.inRegion ops (i :: rest) :: k) ds) cs w)=.next (lone (on b (ns tmps o.dst v) (.inRegion ops rest :: k) ds) cs w'):=by
 rw[←rP ho]
 refine step_lone_go ?_
 rw[uj ho hw hnd]
 simp[stepG.apply,hr]
theorem MF {ops:Array Oper} {i:Nat} {o:Oper} {rest:List Nat} {w':World} (ho:ops[i]?=some o) (hw:Region.wanted o (yielded ops tmps)=true) (hnd : ∀c,o.op≠.defer c)
  (hr:(execOp (hP tmps) o).run P w=.ok .skip w') :
  step P (lone (on b tmps (.inRegion ops (i :: rest) :: k) ds) cs w)=.next (lone (on b (ns tmps o.dst undef) (.inRegion ops rest :: k) ds) cs w'):=by
 rw[←rP ho]
 refine step_lone_go ?_
 rw[uj ho hw hnd]
 simp[stepG.apply,hr]
theorem Pp {ops:Array Oper} {i:Nat} {o:Oper} {rest:List Nat} {f:FuncId} {args:Array Value} {w':World} (ho:ops[i]?=some o) (hw:Region.wanted o (yielded ops tmps)=true) (hnd : ∀c,o.op≠.defer c)
  (hr:(execOp (hP tmps) o).run P w=.ok (.enter f args) w') :
  step P (lone (on b tmps (.inRegion ops (i :: rest) :: k) ds) cs w)=.next (lone (Frame.enter P f args .normal) (on b tmps (.inRegion ops (i :: rest) :: k) ds :: cs) w'):=by
 refine step_lone_go ?_
 rw[uj ho hw hnd]
 simp[stepG.apply,hr,on]
theorem Pm {ops:Array Oper} {i:Nat} {o:Oper} {rest:List Nat} {l:Nat} {f:FuncId} {ts:Array Value} {a c:Code} {w':World} (ho:ops[i]?=some o) (hw:Region.wanted o (yielded ops tmps)=true) (hnd : ∀c,o.op≠.defer c)
  (hr:(execOp (hP tmps) o).run P w=.ok (.round l f ts a c) w') :
  step P (lone (on b tmps (.inRegion ops (i :: rest) :: k) ds) cs w)=.next (lone (Frame.round l f ts a c .normal) (on b tmps (.inRegion ops (i :: rest) :: k) ds :: cs) w'):=by
 refine step_lone_go ?_
 rw[uj ho hw hnd]
 simp[stepG.apply,hr,on]
end
theorem Sv {h h':IH} {b o:Nat} {vs:List Value} (hw:h.wr b o vs=some h'):h'.n=h.n:=by
 unfold IH.wr at hw
 simp only[cond_eq_ite] at hw
 split at hw
 ·cases hw
 ·split at hw
  ·split at hw
   ·split at hw
    ·cases hw;rfl
    ·split at hw
     ·cases hw;rfl
     ·cases hw
   ·cases hw
  ·cases hw
theorem Sf {P:Program} {h h':IH} {st:TypeId} {s x v:Value} (ha:append P h st s x=some (v,h')):h.n≤h'.n:=by
 unfold Id.append at ha
 simp only[cond_eq_ite] at ha
 repeat' (split at ha)
 all_goals first
  | (cases ha;done)
  | (cases ha;exact Nat.le_refl _)
  | (cases ha;exact Nat.le_succ _)
  | (obtain⟨h1,h2,h3⟩:=Option.map_eq_some_iff.1 ha;cases h3;exact Nat.le_of_eq (Sv h2).symm)
theorem OF {P:Program} {h h':IH} {st:TypeId} {s x v:Value} (ha:nf P h st s x=some (v,h')):h.n≤h'.n:=by
 unfold Id.nf at ha
 simp only[cond_eq_ite] at ha
 repeat' (split at ha)
 all_goals first
  | (cases ha;done)
  | (cases ha;exact Nat.le_succ _)
theorem Xs {P:Program} {h h':IH} {dt:TypeId} {d s v:Value} (ha:tR P h dt d s=some (v,h')):h.n≤h'.n:=by
 unfold Id.tR at ha
 simp only[cond_eq_ite] at ha
 repeat' (split at ha)
 all_goals first
  | (cases ha;done)
  | (cases ha;exact Nat.le_refl _)
  | (obtain⟨h1,h2,h3⟩:=Option.map_eq_some_iff.1 ha;cases h3;exact Nat.le_of_eq (Sv h2).symm)
theorem Ut {P:Program} {h h':IH} {t:TypeId} {x v:Value} (ha:vx P h t x=some (v,h')):h.n≤h'.n:=by
 unfold Id.vx at ha
 simp only[cond_eq_ite] at ha
 repeat' (split at ha)
 all_goals first
  | (cases ha;done)
  | (cases ha;exact Nat.le_refl _)
  | (obtain⟨h1,h2,h3⟩:=Option.map_eq_some_iff.1 ha;cases h3;exact Nat.le_of_eq (Sv h2).symm)
theorem IV {h h':IH} {v:Value} {o:Option Value} (ha:o.map (·,h)=some (v,h')):h.n≤h'.n:=by
 obtain⟨a,_,h3⟩:=Option.map_eq_some_iff.1 ha;cases h3;exact Nat.le_refl _
theorem Ot {P:Program} {h h':IH} {b:Builtin} {ts:Array TypeId} {vs:List Value} {v:Value} (ha:builtin P h b ts vs=some (v,h')):h.n≤h'.n:=by
 unfold Id.builtin at ha
 simp only[cond_eq_ite] at ha
 repeat' (split at ha)
 all_goals first
  | (cases ha;done)
  | exact Sf ha
  | exact OF ha
  | exact Xs ha
  | exact Ut ha
  | exact IV ha
theorem SL {P:Program} {h h':IH} {t:TypeId} {a v:Value} (hs:store P h t a v=some h'):h.n≤h'.n:=by
 unfold Id.store at hs
 simp only[cond_eq_ite] at hs
 repeat' (split at hs)
 all_goals first
  | (cases hs;done)
  | exact Nat.le_of_eq (Sv hs).symm
theorem Gy {P:Program} {h h':IH} {t:TypeId} {m k v:Value} (hs:mapUpdate P h t m k v=some h'):h.n≤h'.n:=by
 unfold Id.mapUpdate at hs
 simp only[cond_eq_ite] at hs
 repeat' (split at hs)
 all_goals first
  | (cases hs;done)
  | (cases hs;exact Nat.le_refl _)
theorem El {P:Program} {h h':IH} {t:TypeId} {len:Nat} {ps:List (Nat×Value)} {v:Value} (hs:buildSlice P h t len ps=some (v,h')):h.n≤h'.n:=by
 unfold Id.buildSlice at hs
 simp only[cond_eq_ite] at hs
 repeat' (split at hs)
 all_goals first
  | (cases hs;done)
  | (cases hs;exact Nat.le_succ _)
theorem Gz {P:Program} {h h':IH} {t:TypeId} {l c v:Value} (hs:makeSlice P h t l c=some (v,h')):h.n≤h'.n:=by
 unfold Id.makeSlice at hs
 simp only[cond_eq_ite] at hs
 repeat' (split at hs)
 all_goals first
  | (cases hs;done)
  | (cases hs;exact Nat.le_succ _)
theorem Vl {P:Program} {fr:Fr} {o:Op} {h h':IH} {v:Value} (hi:iop P fr o h=some (v,h')):h.n≤h'.n:=by
 unfold iop at hi
 simp only[cond_eq_ite] at hi
 split at hi
 all_goals try (exact IV hi)
 all_goals repeat' (split at hi)
 all_goals first
  | (cases hi;done)
  | (cases hi;exact Nat.le_refl _)
  | (cases hi;exact Nat.le_succ _)
  | exact IV hi
  | exact Ot hi
  | (obtain⟨h1,h2,h3⟩:=Option.map_eq_some_iff.1 hi;cases h3;exact Nat.le_succ _)
  | (obtain⟨h1,h2,h3⟩:=Option.map_eq_some_iff.1 hi;cases h3;exact Nat.le_refl _)
  | (obtain⟨h1,h2,h3⟩:=Option.map_eq_some_iff.1 hi;cases h3;first|exact SL h2|exact Gy h2)
  | exact El hi
  | exact Gz hi
def dj (call:a8):Prop:=∀(fv:Value) (vs:List Value) (h h':IH) (v:Value),call fv vs h=some (v,h')→h.n≤h'.n
theorem Km {E:Env} {call:a8} (hc:dj call) {fr:Fr} {o:Op} {h h':IH} {v:Value} (hr:cU E call fr o h=some (v,h')):h.n≤h'.n:=by
 unfold cU at hr
 split at hr
 ·split at hr
  ·split at hr
   ·exact hc _ _ _ _ _ hr
   ·cases hr
  ·exact Vl hr
 ·exact Vl hr
theorem y7 {E:Env} {call:a8} (hc:dj call) {nt:Nat} {ops:List Oper} {o:Oper} {fr fr':Fr} {h h':IH} (hs:cS E call nt ops o fr h=some (fr',h')):h.n≤h'.n:=by
 unfold cS at hs
 split at hs
 ·split at hs
  ·rename_i v h2 bw
   obtain⟨a,_,e⟩:=Option.map_eq_some_iff.1 hs;cases e
   exact Km hc bw
  ·cases hs
 ·obtain⟨a,_,e⟩:=Option.map_eq_some_iff.1 hs;cases e;exact Nat.le_refl _
 ·cases hs
theorem zj {E:Env} {call:a8} (hc:dj call) {nt:Nat} {ops:List Oper} : ∀(l:List Oper) (fr fr':Fr) (h h':IH),fi E call nt ops l fr h=some (fr',h')→h.n≤h'.n
 | [],fr,fr',h,h',hr=>by simp only[fi] at hr;cases hr;exact Nat.le_refl _
 | o :: l,fr,fr',h,h',hr=>by
  rw[fi] at hr
  split at hr
  ·rename_i fr1 h1 hs
   exact Nat.le_trans (y7 hc hs) (zj hc l _ _ _ _ hr)
  ·cases hr
def UB (P:Program) (fv:Value) (args:Array Value) (B:Nat) (w0:World) (m:Mp) (h:IH) (w:World) (v:Value) (h':IH):Prop :=
 ∃nx,(do let d ←Deferred.ofValue fv args;invoke d.target d.args:Sem Next).run P w=.ok nx w ∧
  ((∃v',nx=.value v'∧h'=h∧aD m v v' ∧ ∀a∈args.toList,∃k n,a=Value.int k n) ∨
  ∃fr0,((∃f as,nx=.enter f as∧fr0=Frame.enter P f as .normal)∨(∃l f ts a c,nx=.round l f ts a c∧fr0=Frame.round l f ts a c .normal)) ∧
   ∀(c:Frame) (cs:List Frame),∃v' m' w',aD m' v v'∧Rel B w0 m' h' w'∧Step m h w m' h' w'∧Steps P (lone fr0 (c :: cs) w) (lone (c.finish v') cs w'))
def kj (P:Program) (call:a8):Prop :=
 ∀(fv:Value) (vs:List Value) (h h':IH) (v:Value),call fv vs h=some (v,h') → ∀(B:Nat) (w0:World) (m:Mp) (w:World) (fv':Value) (vs':Array Value),
  Rel B w0 m h w→aD m fv fv'→bm m vs vs'.toList→eo m h.n h'.n→UB P fv' vs' B w0 m h w v h'
theorem eo.sub {m:Mp} {a b c d:Nat} (h:eo m a d) (h1:a≤b) (h2:c≤d):eo m b c:=fun k x y=>h k (Nat.le_trans h1 x) (Nat.lt_of_lt_of_le y h2)
theorem Step.fresh {m m':Mp} {h h':IH} {w w':World} (s:Step m h w m' h' w') {c:Nat} (hf:eo m h.n c):eo m' h'.n c:=by
 intro k a b
 have h1:=hf k (Nat.le_trans s.n a) b
 apply Classical.byContradiction
 intro hne
 have hch:m' (2*k)≠m (2*k):=by rw[h1];exact hne
 obtain⟨k',e,_,c⟩:=s.new _ hch
 omega
theorem qU {m:Mp} {nt:Nat} {fr fr':Fr} {tmps:Array Value} {dst:Option Tmp} {v v':Value} (hp:mC nt fr dst v=some fr') (hf:dG m fr tmps) (ht:nt≤tmps.size) (hv:aD m v v'):dG m fr' (ns tmps dst v')∧nt≤(ns tmps dst v').size:=by
 unfold mC at hp
 cases dst with
 | none=>cases hp;exact⟨hf,ht⟩
 | some d =>
  simp only[cond_eq_ite,Nat.blt_eq] at hp
  by_cases hd:d<nt
  ·rw[if_pos hd] at hp;cases hp
   have hd2:d<tmps.size:=Nat.lt_of_lt_of_le hd ht
   refine⟨fun t x hx=>?_,by simpa [ns] using ht⟩
   simp only[ab,cond_eq_ite,beq_iff_eq] at hx
   by_cases e:d=t
   ·subst e
    rw[if_pos rfl] at hx;cases hx
    exact⟨v',by simp[ns,hd2],hv⟩
   ·rw[if_neg e] at hx
    obtain⟨x',h1,h2⟩:=hf t x hx
    exact⟨x',by simp[ns,e,h1],h2⟩
  ·rw[if_neg hd] at hp;cases hp
theorem dG.mono {m m':Mp} (hm:m.le m') {fr:Fr} {tmps:Array Value} (h:dG m fr tmps):dG m' fr tmps:=fun t v hv=>let ⟨v',a,b⟩:=h t v hv;⟨v',a,b.mono hm⟩
theorem oH {m:Mp} {fr:Fr} {tmps:Array Value} (hf:dG m fr tmps) {ops:Array Oper} {o:Oper} {t:Bool} (hw:bA ops.toList o fr=some t):Region.wanted o (yielded ops tmps)=t:=by
 unfold bA at hw
 unfold Region.wanted
 cases hg:o.guard with
 | none=>simp only[hg] at hw ⊢;cases hw;rfl
 | some jw =>
  obtain⟨j,want⟩:=jw
  simp only[hg] at hw ⊢
  split at hw
  ·rename_i d hd
   split at hw
   ·rename_i bb hb
    cases hw
    obtain⟨v',h1,h2⟩:=hf d _ hb
    have e:=h2.cj rfl
    subst e
    have hd':(ops[j]?).bind (·.dst)=some d:=by simpa using hd
    simp only[yielded,hd',Option.bind_some,h1]
    cases bb<;>cases want<;>rfl
   ·rename_i bb hb
    cases hw
    obtain⟨v',h1,h2⟩:=hf d _ hb
    obtain⟨cs',rfl,_⟩:=h2.nL
    have hd':(ops[j]?).bind (·.dst)=some d:=by simpa using hd
    simp only[yielded,hd',Option.bind_some,h1]
    rfl
   ·cases hw
  ·cases hw
theorem zk {E:Env} {call:a8} {fr:Fr} {o:Op} {h h':IH} {v:Value} (hr:cU E call fr o h=some (v,h')) : ∀c,o≠.defer c:=by
 intro c e;subst e;simp[cU,iop] at hr
theorem HZ {E:Env} {call:a8} (fG:kj E.P call) {ops:Array Oper} {i:Nat} {o:Oper} (ho:ops[i]?=some o) {fr:Fr} {h h':IH} {v:Value}
  (hw:bA ops.toList o fr=some true) (hr:cU E call fr o.op h=some (v,h'))
  {B:Nat} {w0:World} {m:Mp} {w:World} (R:Rel B w0 m h w) {tmps:Array Value} (hf:dG m fr tmps) (ct:eo m h.n h'.n) (b:Frame) (rest:List Nat) (k:List Item) (ds:List Deferred) (cs:List Frame) :
  ∃v' m' w',Steps E.P (lone (on b tmps (.inRegion ops (i :: rest) :: k) ds) cs w) (lone (on b (ns tmps o.dst v') (.inRegion ops rest :: k) ds) cs w')∧aD m' v v'∧Rel B w0 m' h' w'∧Step m h w m' h' w':=by
 have hwr:=oH hf hw
 have hnd:=zk hr
 have hρ:=rJ R hf
 have KD:iop E.P fr o.op h=some (v,h') → ∃v' m' w',Steps E.P (lone (on b tmps (.inRegion ops (i :: rest) :: k) ds) cs w) (lone (on b (ns tmps o.dst v') (.inRegion ops rest :: k) ds) cs w')∧aD m' v v'∧Rel B w0 m' h' w'∧Step m h w m' h' w':=by
  intro hi
  obtain⟨nx,v',m',w',bw,hy,h1,h2,h3⟩:=TS R E.P hρ o hi ct
  refine⟨v',m',w',?_,h1,h2,h3⟩
  rcases hy with rfl|⟨rfl,rfl⟩
  ·exact .one (qk ho hwr hnd bw)
  ·exact .one (MF ho hwr hnd bw)
 unfold cU at hr
 split at hr
 ·rename_i c hc
  split at hr
  ·rename_i f ZQ
   split at hr
   ·rename_i fv vs hfv hvs
    have hL:=qF hρ _ _ hvs
    obtain⟨nx,hinv,halt⟩:=fG fv vs h h' v hr B w0 m w (hP tmps f) (c.args.map (hP tmps)) R (hρ f fv hfv) (by simpa using hL) ct
    have QT:(execOp (hP tmps) o).run E.P w=.ok nx w:=by
     rw[←hinv]
     obtain⟨dst,op,ty,pos,aft,gd⟩:=o
     simp only at hc;subst hc
     simp only[execOp,resolve,ZQ,Sem.run_bind]
    rcases halt with⟨v',rfl,rfl,h1,_⟩|⟨fr0,W7,bw⟩
    ·exact⟨v',m,w,.one (qk ho hwr hnd QT),h1,R,Step.refl _ _ _⟩
    obtain⟨v',m',w',h1,h2,h3,h4⟩:=bw (on b tmps (.inRegion ops (i :: rest) :: k) ds) cs
    rw[rP ho] at h4
    refine⟨v',m',w',?_,h1,h2,h3⟩
    rcases W7 with⟨f',as,rfl,rfl⟩|⟨l,f',ts,a,c',rfl,rfl⟩
    ·exact .head (Pp ho hwr hnd QT) h4
    ·exact .head (Pm ho hwr hnd QT) h4
   ·cases hr
  ·rename_i ZQ
   rw[←hc] at hr
   exact KD hr
 ·exact KD hr
theorem Di {E:Env} {call:a8} (fG:kj E.P call) (cG:dj call) {nt:Nat} {ops:Array Oper} (b:Frame) (k:List Item) (ds:List Deferred) (cs:List Frame) {B:Nat} {w0:World} :
  ∀(l:List Oper) (j:Nat) (fr:Fr) (h:IH) (fr':Fr) (h':IH) (m:Mp) (w:World) (tmps:Array Value),ops.toList.drop j=l→fi E call nt ops.toList l fr h=some (fr',h') →
   Rel B w0 m h w→dG m fr tmps→nt≤tmps.size→eo m h.n h'.n →
   ∃m' w' bF,Steps E.P (lone (on b tmps (.inRegion ops (List.range' j l.length) :: k) ds) cs w) (lone (on b bF k ds) cs w')∧dG m' fr' bF∧nt≤bF.size∧Rel B w0 m' h' w'∧Step m h w m' h' w'
 | [],j,fr,h,fr',h',m,w,tmps,hl,hr,R,hf,ht,ct=>by
  simp only[fi] at hr;cases hr
  exact⟨m,w,tmps,.one nj,hf,ht,R,Step.refl _ _ _⟩
 | o :: l,j,fr,h,fr',h',m,w,tmps,hl,hr,R,hf,ht,ct=>by
  have ho:ops[j]?=some o:=by
   have:(ops.toList.drop j)[0]?=some o:=by rw[hl];rfl
   simpa using this
  have hl':ops.toList.drop (j+1)=l:=by
   rw[←List.drop_drop (i:=1) (j:=j),hl];rfl
  rw[fi] at hr
  cases hs:cS E call nt ops.toList o fr h with
  | none=>simp[hs] at hr
  | some p =>
   obtain⟨fr1,h1⟩:=p
   simp only[hs] at hr
   unfold cS at hs
   rw[List.length_cons,List.range'_succ]
   split at hs
   ·rename_i hw
    split at hs
    ·rename_i v h2 bw
     obtain⟨fr2,jn,he⟩:=Option.map_eq_some_iff.1 hs
     cases he
     have hn1:=Km cG bw
     have hn2:=zj cG l _ _ _ _ hr
     obtain⟨v',m1,w1,hS1,hv',R1,S1⟩:=HZ fG ho hw bw R hf (ct.sub (Nat.le_refl _) hn2) b (List.range' (j+1) l.length) k ds cs
     obtain⟨hf2,ht2⟩:=qU jn (hf.mono S1.le) ht hv'
     obtain⟨m',w',bF,hS,a,b',c,d⟩:=Di fG cG b k ds cs l (j+1) _ _ fr' h' m1 w1 _ hl' hr R1 hf2 ht2 ((S1.fresh ct))
     exact⟨m',w',bF,hS1.trans hS,a,b',c,S1.trans d⟩
    ·cases hs
   ·rename_i hw
    obtain⟨fr2,jn,he⟩:=Option.map_eq_some_iff.1 hs
    cases he
    obtain⟨hf2,ht2⟩:=qU jn hf ht (aD.undef m)
    obtain⟨m',w',bF,hS,a,b',c,d⟩:=Di fG cG b k ds cs l (j+1) _ _ fr' h' m w _ hl' hr R hf2 ht2 ct
    exact⟨m',w',bF,.head (Pn ho (oH hf hw)) hS,a,b',c,d⟩
   ·cases hs
theorem Qt {α : Type} {h h' : IH} {v : α} {o : Option α} (hm : o.map (·, h) = some (v, h')) : o = some v ∧ h' = h := by
  obtain ⟨a, ha, e⟩ := Option.map_eq_some_iff.1 hm; cases e; exact ⟨ha, rfl⟩
theorem z7 {P : Program} {fr : Fr} {o : Op} {h h' : IH} {v : Value} (hk : cB o = .pure) (hi : iop P fr o h = some (v, h')) : h' = h ∧ ∀ h2, iop P fr o h2 = some (v, h2) := by
  have mp : ∀ {o : Option Value}, o.map (·, h) = some (v, h') → h' = h ∧ ∀ h2 : IH, o.map (·, h2) = some (v, h2) := by
    intro o hm; obtain ⟨rfl, rfl⟩ := Qt hm; exact ⟨rfl, fun _ => rfl⟩
  unfold iop at hi ⊢
  cases o <;> simp only [cB, reduceCtorEq] at hk <;> simp only [cond_eq_ite] at hi ⊢
  case call c =>
    cases hc : c.callee with
    | builtin b =>
      simp only [hc] at hk hi ⊢
      cases b <;> simp only [reduceCtorEq] at hk
      all_goals
        split at hi
        · rename_i vs hvs
          simp only [Id.builtin, cond_eq_ite] at hi ⊢
          by_cases hp : vs.all plain = true
          · simp only [hp, if_true] at hi ⊢; exact mp hi
          · rw [if_neg hp] at hi; cases hi
        · cases hi
    | value f => simp [hc] at hk
    | invoke r n => simp [hc] at hk
  all_goals first
    | exact mp hi
    | (repeat' (split at hi)
       all_goals first
         | (cases hi; done)
         | exact mp hi
         | (cases hi; exact ⟨rfl, fun _ => rfl⟩)
         | (cases hi; refine ⟨rfl, fun _ => ?_⟩; simp_all; done)
         | (obtain ⟨a, ha, e⟩ := Option.map_eq_some_iff.1 hi; cases e; simp_all))
theorem z8 {P : Program} {fr : Fr} {o : Op} {h h' : IH} {v : Value} (hk : cB o = .load) (hi : iop P fr o h = some (v, h')) : h' = h := by
  unfold iop at hi
  cases o <;> simp only [cB, reduceCtorEq] at hk <;> simp only [] at hi
  case call c =>
    cases hc : c.callee with
    | builtin b =>
      simp only [hc] at hk hi
      cases b <;> simp only [reduceCtorEq] at hk
      split at hi
      · rename_i vs hvs
        unfold Id.builtin at hi
        split at hi
        · split at hi
          · exact (Qt hi).2
          · cases hi
        all_goals first
          | (cases hi; done)
          | (rename_i hb; cases hb)
      · cases hi
    | value f => simp [hc] at hk
    | invoke r n => simp [hc] at hk
  all_goals
    repeat' (split at hi)
    all_goals first
      | (cases hi; done)
      | exact (Qt hi).2
def AW (P : Program) (m : Mp) (w : World) (run : Result Next) (v : Value) (h h' : IH) (obj : bz) : Prop :=
  h' = h.new obj ∧ obj.lone = true ∧ ∃ O v' z, run = .ok (.value v') (w.alloc O) ∧ fQ m (w.alloc O) w.heap.size 0 z obj ∧
    ∀ m' : Mp, m' (2 * h.n) = some (w.heap.size, 0) → aD m' v v'
theorem Ii {m : Mp} {w : World} {cs cs' : List Value} (hv : bm m cs cs') (e : Nat) (t : TypeId) : fQ m (w.alloc (.cells cs'.toArray t)) w.heap.size 0 (e, 0) (.cells cs e none) :=
  ⟨cs'.toArray, t, by rw [heap_alloc, if_pos rfl], ⟨by simp [hv.1], fun i v hi => by obtain ⟨v', a, b⟩ := hv.get hi; exact ⟨v', by simpa using a, b⟩⟩, rfl, Nat.zero_le _⟩
theorem LC {P : Program} {m : Mp} {w : World} {h h' : IH} {run : Result Value} {YH : Result Next} {v : Value} (M : rr m w h h' run v) (hn : YH = run.andThen fun a w' => .ok (.value a) w') :
    ∃ obj, AW P m w YH v h h' obj := by
  obtain ⟨cs, cs', e, t, v', rfl, hL, bw, hv⟩ := M
  exact ⟨_, rfl, rfl, _, v', (e, 0), by rw [hn, bw]; rfl, Ii hL e t, hv⟩
theorem NP {P : Program} {fr : Fr} {m : Mp} {ρ : Operand → Value} (hρ : ∀ x v, opd fr x = some v → aD m v (ρ x)) (oper : Oper) {h h' : IH} {v : Value} (hk : cB oper.op = .alloc) (hi : iop P fr oper.op h = some (v, h')) (w : World) :
    ∃ obj, AW P m w ((execOp ρ oper).run P w) v h h' obj := by
  obtain ⟨dst, op, ty, pos, aft, gd⟩ := oper
  simp only at hk hi ⊢
  cases op <;> simp only [cB, reduceCtorEq] at hk
  case alloc t =>
    simp only [iop] at hi
    obtain ⟨z, hz, he⟩ := Option.map_eq_some_iff.1 hi
    cases he
    obtain ⟨zv, hz0, hzp, rfl⟩ := cP hz
    refine ⟨_, rfl, rfl, .cells zv.cells.toList.toArray t, .pointer (some ⟨w.heap.size, 0, none⟩), (0, 0), ?_, Ii (aD.bP (m := m) hzp).cells 0 t, fun m' hm => aD.ptr (s := 0) (o := 0) hm⟩
    simp only [execOp, Instr.alloc, Sem.run_bind, dP w hz0, Result.andThen_ok, newVar, Go.newRow, run_newObj, Sem.run_pure]; rfl
  case box t x =>
    simp only [iop] at hi
    obtain ⟨a, ha, he⟩ := Option.map_eq_some_iff.1 hi
    cases he
    refine ⟨_, rfl, rfl, .cells (ρ x).cells.toList.toArray t, .pointer (some ⟨w.heap.size, 0, none⟩), (0, 0), ?_, Ii (hρ x a ha).cells 0 t, fun m' hm => aD.ptr (s := 0) (o := 0) hm⟩
    simp only [execOp, Instr.box, Sem.run_bind, Result.andThen_ok, newVar, Go.newRow, run_newObj, Sem.run_pure]; rfl
  case buildSlice t len parts =>
    simp only [iop] at hi
    split at hi
    · rename_i ps hps
      exact LC (ou P hρ hps hi w) (by simp [execOp])
    · cases hi
  case makeMap t r =>
    have fin : ∀ {v h'}, some (Value.map (some (2 * h.n)), h.new (.map [])) = some (v, h') → ((Instr.makeMap t (r.map ρ)).run P w = .ok (.map (some w.heap.size)) (w.alloc (.map #[] 0))) →
        ∃ obj, AW P m w ((execOp ρ { dst := dst, op := .makeMap t r, type := ty, pos := pos, after := aft, guard := gd }).run P w) v h h' obj := by
      intro v h' e bw
      cases e
      exact ⟨_, rfl, rfl, .map #[] 0, .map (some w.heap.size), (0, 0), by simp [execOp, bw], ⟨rfl, #[], by rw [heap_alloc, if_pos rfl]; rfl, rfl, by simp⟩, fun m' hm => .map hm⟩
    simp only [iop] at hi
    split at hi
    · exact fin hi (by simp only [Option.map_none, Instr.makeMap, Sem.run_bind, Sem.run_pure, Result.andThen_ok, run_newObj]; rfl)
    · rename_i x
      split at hi
      · rename_i k n kt et hx hu
        have := (hρ x _ hx).cj rfl
        exact fin hi (by simp only [Option.map_some, this, Instr.makeMap, Sem.run_bind, Go.run_underlying hu, asInt, asIntOf, Sem.run_pure, Result.andThen_ok, run_newObj]; rfl)
      · cases hi
  case makeSlice t l c =>
    simp only [iop] at hi
    split at hi
    · rename_i a b ha hb
      exact LC (pL P hi (hρ l a ha) (hρ c b hb) w) (by simp [execOp])
    · cases hi
  case call c => cases hc : c.callee with
    | builtin b => cases b <;> simp_all
    | value f => simp_all
    | invoke r n => simp_all
theorem Ri {a b:Value} (h:eqS a b=true):a=b:=by
 unfold eqS at h
 split at h
 case h_3 a b =>
  simp only[beq_iff_eq] at h
  have:a=b:=by cases a;cases b;simp only at h;rw[Array.toList_inj.1 h]
  rw[this]
 all_goals simp_all
theorem D9 : ∀{a b:List Value},eqL a b=true→a=b
 | [],[],_=>rfl
 | [],_ :: _,h=>by simp[eqL] at h
 | _ :: _,[],h=>by simp[eqL] at h
 | x :: a,y :: b,h=>by
  simp only[eqL,Bool.and_eq_true] at h
  rw[Ri h.1,D9 h.2]
theorem Rj {a b:Value} (h:eqA a b=true):a=b:=by
 unfold eqA at h
 split at h
 ·rw[Array.toList_inj.1 (D9 h)]
 ·simp only[Bool.and_eq_true,beq_iff_eq] at h
  rw[h.1.1,Array.toList_inj.1 (D9 h.1.2),Array.toList_inj.1 (D9 h.2)]
 ·exact Ri h
theorem Rh : ∀{a b:List Value},eqT a b=true→a=b
 | [],[],_=>rfl
 | [],_ :: _,h=>by simp[eqT] at h
 | _ :: _,[],h=>by simp[eqT] at h
 | x :: a,y :: b,h=>by
  simp only[eqT,Bool.and_eq_true] at h
  rw[Rj h.1,Rh h.2]
theorem Um {a b:Value} (h:Xl a b=true):a=b:=by
 unfold Xl at h
 split at h
 ·rw[Array.toList_inj.1 (Rh h)]
 ·exact Rj h
theorem Xk {a b:Value} (h:eqV a b=true):a=b:=by
 simp only[eqV,Bool.or_eq_true,decide_eq_true_eq] at h
 exact h.elim Um id
theorem gh (fr:Fr) : ∀(l:List Nat) (t:Nat),ab (dV fr l) t=if t∈l then ab fr t else none
 | [],t=>by simp[dV,ab]
 | a :: l,t=>by
  rw[dV]
  cases ha:ab fr a with
  | none =>
   simp only[gh fr l t]
   by_cases h1:t∈l
   ·simp[h1]
   ·by_cases h2:t=a
    ·subst h2;simp[h1,ha]
    ·simp[h1,h2]
  | some v =>
   simp only[ab,cond_eq_ite,beq_iff_eq,gh fr l t]
   by_cases h2:a=t
   ·subst h2;simp[ha]
   ·by_cases h1:t∈l
    ·simp[h1,h2]
    ·have : ¬t=a:=fun e=>h2 e.symm
     simp[h1,h2,this]
theorem md {fr fr2:Fr} : ∀(l:List Operand),(∀x∈l,opd fr x=opd fr2 x)→gA fr l=gA fr2 l
 | [],_=>rfl
 | x :: l,h=>by rw[gA,gA,h x (by simp),md l (fun y hy=>h y (by simp[hy]))]
theorem nu {fr fr2:Fr} : ∀(l:List (Nat×Operand)),(∀x∈l.map (·.2),opd fr x=opd fr2 x)→partsOf fr l=partsOf fr2 l
 | [],_=>rfl
 | (i,x) :: l,h=>by rw[partsOf,partsOf,h x (by simp),nu l (fun y hy=>h y (by simp only[List.map_cons,List.mem_cons];exact .inr hy))]
theorem pc {fr fr2:Fr} {o:Option Operand} (h : ∀x∈o.toArray,opd fr x=opd fr2 x):cX fr o=cX fr2 o:=by
 cases o with
 | none=>rfl
 | some x=>simp only[cX];rw[h x (by simp)]
theorem wA {P:Program} {fr fr2:Fr} {o:Op} (h : ∀x∈o.operands,opd fr x=opd fr2 x) (hp:IH):iop P fr o hp=iop P fr2 o hp:=by
 cases o<;>simp only[Op.operands] at h<;>simp only[iop]
 case move x=>rw[h x (by simp)]
 case assign x=>rw[h x (by simp)]
 case pick c a b=>rw[h c (by simp),h a (by simp),h b (by simp)]
 case box t x=>rw[h x (by simp)]
 case build t ps=>rw[nu ps.toList (fun x hx=>h x (by simpa using hx))]
 case buildSlice t n ps=>rw[nu ps.toList (fun x hx=>h x (by simpa using hx))]
 case load t a=>rw[h a (by simp)]
 case store t a v=>rw[h a (by simp),h v (by simp)]
 case nilCheck x=>rw[h x (by simp)]
 case binOp op t x y yt=>rw[h x (by simp),h y (by simp)]
 case unOp op t x=>rw[h x (by simp)]
 case convert s d x=>rw[h x (by simp)]
 case sliceToArrayPointer t x=>rw[h x (by simp)]
 case makeFunc fn first cap =>
  rw[md first.toList (fun x hx=>h x (by simp at hx ⊢;exact .inl hx)),md cap.toList (fun x hx=>h x (by simp at hx ⊢;exact .inr hx))]
 case makeMap t r=>cases r with
  | none=>rfl
  | some x=>simp only;rw[h x (by simp)]
 case makeSlice t l c=>rw[h l (by simp),h c (by simp)]
 case slice t x lo hi mx =>
  rw[h x (by simp),pc (o:=lo) (fun y hy=>h y (by simp at hy ⊢;simp[hy])),pc (o:=hi) (fun y hy=>h y (by simp at hy ⊢;simp[hy])),pc (o:=mx) (fun y hy=>h y (by simp at hy ⊢;simp[hy]))]
 case fieldAddr t x f=>rw[h x (by simp)]
 case field t x f=>rw[h x (by simp)]
 case indexAddr t x i=>rw[h x (by simp),h i (by simp)]
 case index t x i=>rw[h x (by simp),h i (by simp)]
 case lookup t m k ok=>rw[h m (by simp),h k (by simp)]
 case mapUpdate t m k v=>rw[h m (by simp),h k (by simp),h v (by simp)]
 case insert t m k v=>rw[h m (by simp),h k (by simp),h v (by simp)]
 case extract x i=>rw[h x (by simp)]
 case range t x=>rw[h x (by simp)]
 case entry x=>rw[h x (by simp)]
 case call c =>
  cases hc:c.callee with
  | builtin b=>simp only;rw[md c.args.toList (fun x hx=>h x (by simp[Call.operands,hc];simpa using hx))]
  | value f=>rfl
  | invoke r n=>rfl
theorem FE {E:Env} {call:a8} {fr fr2:Fr} {o:Op} (h : ∀x∈o.operands,opd fr x=opd fr2 x) (hp:IH):cU E call fr o hp=cU E call fr2 o hp:=by
 unfold cU
 split
 ·rename_i c
  split
  ·rename_i f hc
   simp only[Op.operands,Call.operands,hc] at h
   rw[h f (by simp),md c.args.toList (fun x hx=>h x (by simp;exact .inr (by simpa using hx)))]
  ·exact wA h hp
 ·exact wA h hp
theorem Ga (fr:Fr) (ops:List Oper) (o:Oper) : ∀x∈o.op.operands,opd (dV fr (reads ops o)) x=opd fr x:=by
 intro x hx
 cases x with
 | tmp t =>
  simp only[opd,gh]
  rw[if_pos ?_]
  unfold reads tmpsOf
  exact List.mem_append_left _ (List.mem_filterMap.2 ⟨.tmp t,by simpa using hx,rfl⟩)
 | _=>rfl
theorem w9 (fr:Fr) (ops:List Oper) (o:Oper):bA ops o (dV fr (reads ops o))=bA ops o fr:=by
 unfold bA
 cases hg:o.guard with
 | none=>rfl
 | some jw =>
  obtain⟨j,want⟩:=jw
  simp only
  cases hd:(ops[j]?).bind (·.dst) with
  | none=>rfl
  | some d =>
   simp only
   rw[gh,if_pos ?_]
   unfold reads
   exact List.mem_append_right _ (by simp[hg,hd])
theorem oJ {E:Env} {call:a8} {nt:Nat} {ops:List Oper} : ∀(l:List Oper) (fr:Fr) (h:IH) (tr:List (Fr×IH)),trace E call nt ops l fr h=some tr →
  tr.length=l.length+1∧tr[0]?=some (fr,h) ∧ ∀(i:Nat) (o:Oper),l[i]?=some o → ∃fr1 h1 fr2 h2,tr[i]?=some (fr1,h1)∧tr[i+1]?=some (fr2,h2)∧cS E call nt ops o fr1 h1=some (fr2,h2)
 | [],fr,h,tr,ht=>by simp only[trace] at ht;cases ht;exact⟨rfl,rfl,by simp⟩
 | o :: l,fr,h,tr,ht=>by
  rw[trace] at ht
  split at ht
  ·rename_i fr' h' hs
   obtain⟨tr',h1,rfl⟩:=Option.map_eq_some_iff.1 ht
   obtain⟨a,b,c⟩:=oJ l fr' h' tr' h1
   refine⟨by simp[a],rfl,fun i o' hi=>?_⟩
   cases i with
   | zero=>simp at hi;subst hi;exact⟨fr,h,fr',h',rfl,by simpa using b,hs⟩
   | succ i=>simp at hi;obtain⟨x1,x2,x3,x4,y1,y2,y3⟩:=c i o' hi;exact⟨x1,x2,x3,x4,by simpa using y1,by simpa using y2,y3⟩
  ·cases ht
theorem ui (acc:List Nat) (i:Nat) : ∀(es:List Edge),(es.foldr (fun e s=>bif Region.binds .any e then s ||| 2 ^ e.on ||| acc.getD e.on 0 else s) 0).testBit i=es.any (fun e=>Region.binds .any e && (e.on == i || (acc.getD e.on 0).testBit i))
 | []=>by simp
 | e :: es=>by
  rw[List.foldr_cons,List.any_cons,←ui acc i es]
  cases hb:Region.binds .any e with
  | false=>simp
  | true =>
   simp only[cond_true,Nat.testBit_or,Nat.testBit_two_pow,Bool.true_and]
   have:decide (e.on=i)=(e.on == i):=by by_cases h:e.on=i<;>simp[h]
   rw[this]
   cases(List.foldr (fun e s=>bif Region.binds .any e then s ||| 2 ^ e.on ||| acc.getD e.on 0 else s) 0 es).testBit i<;>cases(e.on == i)<;>cases(acc.getD e.on 0).testBit i<;>rfl
theorem zQ : ∀(l:List Oper) (acc:List Nat),(pK acc l).length=acc.length+l.length∧(pK acc l).take acc.length=acc ∧
  ∀(j:Nat) (o:Oper),l[j]?=some o→(pK acc l)[acc.length+j]?=some (tD ((pK acc l).take (acc.length+j)) o)
 | [],acc=>by simp[pK]
 | o :: l,acc=>by
  obtain⟨h1,h2,h3⟩:=zQ l (acc ++ [tD acc o])
  rw[pK]
  simp only[List.length_append,List.length_cons,List.length_nil] at h1 h2 h3
  have Zs:(pK (acc ++ [tD acc o]) l).take acc.length=acc:=by
   have:=congrArg (List.take acc.length) h2
   rw[List.take_take,List.take_append_of_le_length (Nat.le_refl _),List.take_length] at this
   rw[Nat.min_eq_left (by omega)] at this
   exact this
  refine⟨by rw[h1,List.length_cons];omega,Zs,fun j o' hj=>?_⟩
  cases j with
  | zero =>
   simp at hj;subst hj
   rw[Nat.add_zero,Zs]
   have:((pK (acc ++ [tD acc o]) l).take (acc.length+1))[acc.length]?=some (tD acc o):=by rw[h2];simp
   rw[List.getElem?_take] at this
   simpa using this
  | succ j =>
   simp at hj
   have:=h3 j o' hj
   rw[show acc.length+(j+1)=acc.length+(0+1)+j from by omega]
   exact this
def fe (ops:List Oper) (j i:Nat):Bool:=((pK [] ops).getD j 0).testBit i
theorem Hn {ops:List Oper} {j i:Nat} {o:Oper} (ho:ops[j]?=some o) (hlt : ∀e∈o.after,Region.binds .any e=true→e.on<j) :
  fe ops j i=true ↔ ∃e∈o.after,Region.binds .any e=true∧(e.on=i∨fe ops e.on i=true):=by
 obtain⟨_,_,h3⟩:=zQ ops []
 have hm:=h3 j o ho
 simp only[List.length_nil,Nat.zero_add] at hm
 unfold fe
 rw[List.getD_eq_getElem?_getD,hm,Option.getD_some]
 unfold tD
 rw[ui,List.any_eq_true]
 constructor
 ·rintro⟨e,he,hb⟩
  simp only[Bool.and_eq_true,Bool.or_eq_true,beq_iff_eq] at hb
  refine⟨e,by simpa using he,hb.1,?_⟩
  have:=hlt e (by simpa using he) hb.1
  rcases hb.2 with h|h
  ·exact .inl h
  ·right;rw[List.getD_eq_getElem?_getD,List.getElem?_take,if_pos this] at h;rw[List.getD_eq_getElem?_getD];exact h
 ·rintro⟨e,he,hb,h⟩
  have hl:=hlt e he hb
  refine⟨e,by simpa using he,?_⟩
  simp only[Bool.and_eq_true,Bool.or_eq_true,beq_iff_eq]
  refine⟨hb,?_⟩
  rcases h with h|h
  ·exact .inl h
  ·right;rw[List.getD_eq_getElem?_getD,List.getElem?_take,if_pos hl];rw[List.getD_eq_getElem?_getD] at h;exact h
theorem Rel.XQ {B:Nat} {w0:World} {m:Mp} {h:IH} {w:World} (R:Rel B w0 m h w) (o:bz) (hl:o.lone=true)
  (hm:m (2*h.n)=none ∨ ∃r,m (2*h.n)=some (r,0)∧fQ m w r 0 (m.ez (2*h.n)) o ∧ ∀k s,k<h.n→m (2*k)≠some (r,s)):Rel B w0 m (h.new o) w:=by
 have cC : ∀k,(h.new o).ext.get k=if k=h.n then some o else h.ext.get k:=fun k=>Tr.bK _ _ _ _
 have hdn:=R.dom h.n (Nat.le_refl _)
 have hn:(h.new o).n=h.n+1:=rfl
 have hlt : ∀{k x},h.ext.get k=some x→k<h.n:=by
  intro k x hk
  rcases Nat.lt_or_ge k h.n with e|e
  ·exact e
  ·rw[R.dom k e] at hk;cases hk
 refine⟨R.below,R.size,R.base,R.odd,R.even,?_,?_,?_,?_,?_,?_,R.whole⟩
 ·intro k hk;rw[cC,if_neg (by omega)];exact R.dom k (by omega)
 ·intro k x r s hk hr
  rw[cC] at hk
  by_cases e:k=h.n
  ·subst e;rw[if_pos rfl] at hk;cases hk
   rcases hm with e|⟨r',h1,h2,_⟩
   ·rw[e] at hr;cases hr
   ·rw[h1] at hr;cases hr;exact h2
  ·rw[if_neg e] at hk;exact R.obj k x r s hk hr
 ·intro k k' x x' r s s' hne hk hk' ha ha' hr hr'
  rw[cC] at hk hk'
  by_cases e:k=h.n
  ·subst e
   rw[if_neg (fun e=>hne e.symm)] at hk'
   rcases hm with e|⟨r',h1,_,h3⟩
   ·rw[e] at hr;cases hr
   ·rw[h1] at hr;cases hr
    exact absurd hr' (h3 k' s' (hlt hk'))
  ·by_cases e':k'=h.n
   ·subst e'
    rw[if_neg e] at hk
    rcases hm with e|⟨r',h1,_,h3⟩
    ·rw[e] at hr';cases hr'
    ·rw[h1] at hr';cases hr'
     exact absurd hr (h3 k s (hlt hk))
   ·rw[if_neg e] at hk;rw[if_neg e'] at hk'
    exact(R.own k k' x x' r s s' hne hk hk' ha ha' hr hr').imp (Lb hdn) id
 ·intro f st hf
  obtain⟨a,b,c⟩:=R.cY f st hf
  exact⟨Nat.lt_succ_of_lt a,fun x hx=>Nat.lt_succ_of_lt (b x hx),c⟩
 ·intro k cs t f hk
  rw[cC] at hk
  by_cases e:k=h.n
  ·rw[if_pos e] at hk;cases hk;simp[bz.lone] at hl
  ·rw[if_neg e] at hk;exact R.fam k cs t f hk
 ·intro f st hf
  have ZA:=(R.cY f st hf).2.1
  refine(R.long f st hf).imp_of_mem fun {x y} hx hy hxy=>?_
  intro cs t g cs' t' g' r s s' h1 h2 h3 h4
  rw[cC,if_neg (by have:=ZA x hx;omega)] at h1;rw[cC,if_neg (by have:=ZA y hy;omega)] at h2
  exact hxy cs t g cs' t' g' r s s' h1 h2 h3 h4
theorem Rel.YQ {B:Nat} {w0:World} {m:Mp} {h:IH} {w:World} (R:Rel B w0 m h w) (k:Nat) (O:Obj) (z:Nat×Nat) (hm:m (2*k)=none)
  (nY : ∀o,h.ext.get k=some o→o.lone=true∧fQ m (w.alloc O) w.heap.size 0 z o) (hst : ∀f st,h.bT.get f=some st→k∉st):Rel B w0 (m.upd (2*k) (w.heap.size,0) z) h (w.alloc O):=by
 have hle:m.le (m.upd (2*k) (w.heap.size,0) z):=Mp.zX hm
 have hold : ∀r,r<w.heap.size→(w.alloc O).heap[r]?=w.heap[r]?:=fun r hr=>by rw[heap_alloc,if_neg (by omega)]
 refine⟨m8 R.below R.size O,by rw[size_alloc];have:=R.size;omega,?_,?_,?_,R.dom,?_,?_,R.cY,R.fam,?_,?_⟩
 ·intro b cs hb
  obtain⟨r0,s0,hm0,hb1,c,el,fz,hc,hr⟩:=R.base b cs hb
  refine⟨r0,s0,by rw[Mp.bR _ _ _ (by omega)];exact hm0,hb1,c,el,fz,?_,hr.1,fun i v hv=>let ⟨v',x,y⟩:=hr.2 i v hv;⟨v',x,y.mono hle⟩⟩
  rw[hold r0 (by have:=R.size;omega),hc]
 ·intro b hb;rw[Mp.bR _ _ _ (by omega)];exact R.odd b hb
 ·intro j r s hj
  rw[size_alloc]
  by_cases e:j=k
  ·subst e;rw[Mp.bh] at hj;cases hj;exact⟨R.size,by omega⟩
  ·rw[Mp.bR _ _ _ (by omega)] at hj
   have:=R.even j r s hj;omega
 ·intro j x r s hx hj
  by_cases e:j=k
  ·subst e
   rw[Mp.bh] at hj;cases hj
   exact(nY x hx).2.mono hle rfl (Mp.lz _ _ _ _)
  ·rw[Mp.bR _ _ _ (by omega)] at hj
   exact(R.obj j x r s hx hj).mono hle (hold r (R.even j r s hj).2) (Mp.Rc _ _ _ (by omega))
 ·intro j j' x x' r s s' hne hx hx' ha ha' hj hj'
  by_cases e:j=k
  ·subst e
   rw[Mp.bh] at hj;cases hj
   rw[Mp.bR _ _ _ (by omega)] at hj'
   have:=R.even _ _ _ hj';omega
  ·by_cases e':j'=k
   ·subst e'
    rw[Mp.bh] at hj';cases hj'
    rw[Mp.bR _ _ _ (by omega)] at hj
    have:=R.even _ _ _ hj;omega
   ·rw[Mp.bR _ _ _ (by omega)] at hj hj'
    exact R.own j j' x x' r s s' hne hx hx' ha ha' hj hj'
 ·intro f st hf
  refine(R.long f st hf).imp_of_mem fun {x y} hx hy hxy=>?_
  have hx':x≠k:=fun e=>hst f st hf (e▸hx)
  have hy':y≠k:=fun e=>hst f st hf (e▸hy)
  intro cs t g cs' t' g' r s s' h1 h2 h3 h4
  rw[Mp.bR _ _ _ (by omega)] at h3 h4
  exact hxy cs t g cs' t' g' r s s' h1 h2 h3 h4
 ·intro f st x y hf hx hy
  have hx':x≠k:=fun e=>hst f st hf (e▸hx)
  have hy':y≠k:=fun e=>hst f st hf (e▸hy)
  rw[Mp.bR _ _ _ (by omega),Mp.bR _ _ _ (by omega)]
  exact R.whole f st x y hf hx hy
end Go.Id
