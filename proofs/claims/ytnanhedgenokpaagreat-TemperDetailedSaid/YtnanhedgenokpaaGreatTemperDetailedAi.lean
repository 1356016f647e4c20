/-
  The ideal machine: one operation and a region in the order of its text, on the model's machine. The ideal machine: what a region whose order is open needs to know of each kind of operation.
-/
import Derived.Test.YtnanhedgenokpaaGreatTemperDetailedAh
set_option linter.unusedVariables false
set_option linter.unusedSimpArgs false
set_option linter.defProp false
set_option linter.deprecated false
namespace Go.Id
open Go Go.RowKit
def on (b:Frame) (tmps:Array Value) (todo:List Item) (ds:List Deferred):Frame :=
 { fn:=b.fn,tmps,todo,defers:=ds,mode:=.run,kind:=b.kind,roundOf:=b.roundOf }
def evalT (tmps:Array Value):Operand→Value
 | .tmp t=>tmps.getD t undef
 | .const v=>v
 | .global g=>.pointer (some ⟨g,0,none⟩)
 | .func f=>.func (.func f) #[] #[]
theorem eval_on (b:Frame) (tmps:Array Value) (todo:List Item) (ds:List Deferred):(on b tmps todo ds).eval=evalT tmps:=by
 funext x;cases x<;>rfl
theorem opd_evalT {B:Nat} {w0:World} {m:Mp} {h:IH} {w:World} (R:Rel B w0 m h w) {fr:Fr} {tmps:Array Value} (hf:FrRel m fr tmps) : ∀x v,opd fr x=some v→VRel m v (evalT tmps x):=by
 intro x v hx
 cases x with
 | tmp t =>
  simp only[opd] at hx
  obtain⟨v',h1,h2⟩:=hf t v hx
  simp only[evalT,Array.getD_eq_getD_getElem?,h1,Option.getD_some]
  exact h2
 | const u =>
  simp only[opd,cond_eq_ite] at hx
  by_cases hp:plain u=true
  ·rw[if_pos hp] at hx;cases hx;exact .plain_mk hp
  ·rw[if_neg hp] at hx;cases hx
 | global g =>
  simp only[opd,cond_eq_ite,Nat.blt,Nat.ble_eq] at hx
  split at hx
  case isFalse=>cases hx
  rename_i hg
  cases hx
  have:=VRel.ptr (m:=m) (o:=0) (R.odd g hg)
  simpa [evalT] using this
 | func f =>
  simp only[opd] at hx;cases hx
  exact VRel.func_mk rfl (.nil m) (.nil m)
section
variable {P:Program} {b:Frame} {tmps:Array Value} {ds:List Deferred} {k:List Item} {cs:List Frame} {w:World}
theorem st_skip:step P (lone (on b tmps (.code .skip :: k) ds) cs w)=.next (lone (on b tmps k ds) cs w):=step_lone_go (by simp[stepG,stepG.exec,on])
theorem st_label {l:Nat}:step P (lone (on b tmps (.code (.label l) :: k) ds) cs w)=.next (lone (on b tmps k ds) cs w):=step_lone_go (by simp[stepG,stepG.exec,on])
theorem st_inBlock {id:Nat}:step P (lone (on b tmps (.inBlock id :: k) ds) cs w)=.next (lone (on b tmps k ds) cs w):=step_lone_go (by simp[stepG,stepG.exec,on])
theorem st_inScope {c:Code}:step P (lone (on b tmps (.inScope c :: k) ds) cs w)=.next (lone (on b tmps k ds) cs w):=step_lone_go (by simp[stepG,stepG.exec,on])
theorem st_seq {x y:Code}:step P (lone (on b tmps (.code (.seq x y) :: k) ds) cs w)=.next (lone (on b tmps (.code x :: .code y :: k) ds) cs w):=step_lone_go (by simp[stepG,stepG.exec,on])
theorem st_cond {c:Operand} {x y:Code} {t:Bool} (h:evalT tmps c=.bool t) :
  step P (lone (on b tmps (.code (.cond c x y) :: k) ds) cs w)=.next (lone (on b tmps (.code (if t then x else y) :: k) ds) cs w) :=
 step_lone_go (by
  have:=congrFun (eval_on b tmps (.code (.cond c x y) :: k) ds) c
  simp only[on] at this
  simp[stepG,stepG.exec,on,this,h])
theorem st_block {id:Nat} {c:Code}:step P (lone (on b tmps (.code (.block id c) :: k) ds) cs w)=.next (lone (on b tmps (.code c :: .inBlock id :: k) ds) cs w):=step_lone_go (by simp[stepG,stepG.exec,on])
theorem st_scope {c:Code}:step P (lone (on b tmps (.code (.scope c) :: k) ds) cs w)=.next (lone (on b tmps (.code c :: .inScope c :: k) ds) cs w):=step_lone_go (by simp[stepG,stepG.exec,on])
theorem st_loop {c:Code}:step P (lone (on b tmps (.code (.loop c) :: k) ds) cs w)=.next (lone (on b tmps (.code c :: .inLoop c :: k) ds) cs w):=step_lone_go (by simp[stepG,stepG.exec,on])
theorem st_inLoop {c:Code}:step P (lone (on b tmps (.inLoop c :: k) ds) cs w)=.next (lone (on b tmps (.code c :: .inLoop c :: k) ds) cs w):=step_lone_go (by simp[stepG,stepG.exec,on])
theorem st_exit {id:Nat} {k':List Item} (h:exitTo id k=some k'):step P (lone (on b tmps (.code (.exit id) :: k) ds) cs w)=.next (lone (on b tmps k' ds) cs w):=step_lone_go (by simp[stepG,stepG.exec,on,h])
theorem st_region {id:Nat} {ops:Array Oper}:step P (lone (on b tmps (.code (.region id ops false) :: k) ds) cs w)=.next (lone (on b tmps (.inRegion ops (List.range ops.size) :: k) ds) cs w) :=
 step_lone_go (by simp[stepG,stepG.exec,on])
theorem st_region_draw {id:Nat} {ops:Array Oper}:step P (lone (on b tmps (.code (.region id ops true) :: k) ds) cs w) =
  .next (lone (on b tmps (.inRegion ops (Region.schedule (P.follows .mixedOrders) ops (w.tape w.drawn (.order b.fn id))) :: k) ds) cs { w with drawn:=w.drawn+1 }) :=
 step_lone_go (by simp[stepG,stepG.exec,on,choose,Sem.run,Question.forced,Question.cut])
theorem st_region_end {ops:Array Oper}:step P (lone (on b tmps (.inRegion ops [] :: k) ds) cs w)=.next (lone (on b tmps k ds) cs w):=step_lone_go (by simp[stepG,stepG.exec,on])
def putT (tmps:Array Value) (dst:Option Tmp) (v:Value):Array Value :=
 match dst with
 | some d=>tmps.setIfInBounds d v
 | none=>tmps
theorem finish_on {ops:Array Oper} {i:Nat} {o:Oper} {rest:List Nat} (ho:ops[i]?=some o) (v:Value):(on b tmps (.inRegion ops (i :: rest) :: k) ds).finish v=on b (putT tmps o.dst v) (.inRegion ops rest :: k) ds:=by
 unfold Frame.finish on
 simp only[ho,Option.bind_some]
 cases o.dst<;>rfl
theorem st_off {ops:Array Oper} {i:Nat} {o:Oper} {rest:List Nat} (ho:ops[i]?=some o) (hw:Region.wanted o (yielded ops tmps)=false) :
  step P (lone (on b tmps (.inRegion ops (i :: rest) :: k) ds) cs w)=.next (lone (on b (putT tmps o.dst undef) (.inRegion ops rest :: k) ds) cs w):=by
 rw[←finish_on ho]
 exact step_lone_go (by
  have h':((ops[i]?).map (Region.wanted · (yielded ops tmps))).getD false=false:=by simp[ho,hw]
  simp only[on] at *
  simp[stepG,stepG.exec,h'])
theorem stepG_on {ops:Array Oper} {i:Nat} {o:Oper} {rest:List Nat} (ho:ops[i]?=some o) (hw:Region.wanted o (yielded ops tmps)=true) (hnd : ∀c,o.op≠.defer c) :
  stepG P true { frame:=on b tmps (.inRegion ops (i :: rest) :: k) ds,callers:=cs,status:=.running,dying:=none } w =
   stepG.apply P true (on b tmps (.inRegion ops (i :: rest) :: k) ds) cs none (execOp (evalT tmps) o) w:=by
 have he:=eval_on b tmps (.inRegion ops (i :: rest) :: k) ds
 simp only[on] at he
 simp only[stepG,stepG.exec,on,ho,Option.map_some,hw,Option.getD_some,if_true,stepG.oper,Frame.oper?,he]
 cases hr:b.roundOf with
 | none=>simp
 | some l =>
  cases hop:o.op<;>simp_all
theorem st_value {ops:Array Oper} {i:Nat} {o:Oper} {rest:List Nat} {v:Value} {w':World} (ho:ops[i]?=some o) (hw:Region.wanted o (yielded ops tmps)=true) (hnd : ∀c,o.op≠.defer c)
  (hr:(execOp (evalT tmps) o).run P w=.ok (.value v) w') :
  step P (lone (on b tmps (.inRegion ops (i :: rest) :: k) ds) cs w)=.next (lone (on b (putT tmps o.dst v) (.inRegion ops rest :: k) ds) cs w'):=by
 rw[←finish_on ho]
 refine step_lone_go ?_
 rw[stepG_on ho hw hnd]
 simp[stepG.apply,hr]
theorem st_skipop {ops:Array Oper} {i:Nat} {o:Oper} {rest:List Nat} {w':World} (ho:ops[i]?=some o) (hw:Region.wanted o (yielded ops tmps)=true) (hnd : ∀c,o.op≠.defer c)
  (hr:(execOp (evalT tmps) o).run P w=.ok .skip w') :
  step P (lone (on b tmps (.inRegion ops (i :: rest) :: k) ds) cs w)=.next (lone (on b (putT tmps o.dst undef) (.inRegion ops rest :: k) ds) cs w'):=by
 rw[←finish_on ho]
 refine step_lone_go ?_
 rw[stepG_on ho hw hnd]
 simp[stepG.apply,hr]
theorem st_enter {ops:Array Oper} {i:Nat} {o:Oper} {rest:List Nat} {f:FuncId} {args:Array Value} {w':World} (ho:ops[i]?=some o) (hw:Region.wanted o (yielded ops tmps)=true) (hnd : ∀c,o.op≠.defer c)
  (hr:(execOp (evalT tmps) o).run P w=.ok (.enter f args) w') :
  step P (lone (on b tmps (.inRegion ops (i :: rest) :: k) ds) cs w)=.next (lone (Frame.enter P f args .normal) (on b tmps (.inRegion ops (i :: rest) :: k) ds :: cs) w'):=by
 refine step_lone_go ?_
 rw[stepG_on ho hw hnd]
 simp[stepG.apply,hr,on]
theorem st_round {ops:Array Oper} {i:Nat} {o:Oper} {rest:List Nat} {l:Nat} {f:FuncId} {ts:Array Value} {a c:Code} {w':World} (ho:ops[i]?=some o) (hw:Region.wanted o (yielded ops tmps)=true) (hnd : ∀c,o.op≠.defer c)
  (hr:(execOp (evalT tmps) o).run P w=.ok (.round l f ts a c) w') :
  step P (lone (on b tmps (.inRegion ops (i :: rest) :: k) ds) cs w)=.next (lone (Frame.round l f ts a c .normal) (on b tmps (.inRegion ops (i :: rest) :: k) ds :: cs) w'):=by
 refine step_lone_go ?_
 rw[stepG_on ho hw hnd]
 simp[stepG.apply,hr,on]
end
theorem wr_n {h h':IH} {b o:Nat} {vs:List Value} (hw:h.wr b o vs=some h'):h'.n=h.n:=by
 unfold IH.wr at hw
 simp only[cond_eq_ite] at hw
 split at hw
 ·cases hw
 ·split at hw
  ·split at hw
   ·split at hw
    ·cases hw;rfl
    ·split at hw
     ·cases hw;rfl
     ·cases hw
   ·cases hw
  ·cases hw
theorem append_n {P:Program} {h h':IH} {st:TypeId} {s x v:Value} (ha:append P h st s x=some (v,h')):h.n≤h'.n:=by
 unfold Id.append at ha
 simp only[cond_eq_ite] at ha
 repeat' (split at ha)
 all_goals first
  | (cases ha;done)
  | (cases ha;exact Nat.le_refl _)
  | (cases ha;exact Nat.le_succ _)
  | (obtain⟨h1,h2,h3⟩:=Option.map_eq_some_iff.1 ha;cases h3;exact Nat.le_of_eq (wr_n h2).symm)
theorem appendZ_n {P:Program} {h h':IH} {st:TypeId} {s x v:Value} (ha:appendZ P h st s x=some (v,h')):h.n≤h'.n:=by
 unfold Id.appendZ at ha
 simp only[cond_eq_ite] at ha
 repeat' (split at ha)
 all_goals first
  | (cases ha;done)
  | (cases ha;exact Nat.le_succ _)
theorem copy_n {P:Program} {h h':IH} {dt:TypeId} {d s v:Value} (ha:copyOp P h dt d s=some (v,h')):h.n≤h'.n:=by
 unfold Id.copyOp at ha
 simp only[cond_eq_ite] at ha
 repeat' (split at ha)
 all_goals first
  | (cases ha;done)
  | (cases ha;exact Nat.le_refl _)
  | (obtain⟨h1,h2,h3⟩:=Option.map_eq_some_iff.1 ha;cases h3;exact Nat.le_of_eq (wr_n h2).symm)
theorem clear_n {P:Program} {h h':IH} {t:TypeId} {x v:Value} (ha:clearOp P h t x=some (v,h')):h.n≤h'.n:=by
 unfold Id.clearOp at ha
 simp only[cond_eq_ite] at ha
 repeat' (split at ha)
 all_goals first
  | (cases ha;done)
  | (cases ha;exact Nat.le_refl _)
  | (obtain⟨h1,h2,h3⟩:=Option.map_eq_some_iff.1 ha;cases h3;exact Nat.le_of_eq (wr_n h2).symm)
theorem map2_n {h h':IH} {v:Value} {o:Option Value} (ha:o.map (·,h)=some (v,h')):h.n≤h'.n:=by
 obtain⟨a,_,h3⟩:=Option.map_eq_some_iff.1 ha;cases h3;exact Nat.le_refl _
theorem builtin_n {P:Program} {h h':IH} {b:Builtin} {ts:Array TypeId} {vs:List Value} {v:Value} (ha:builtin P h b ts vs=some (v,h')):h.n≤h'.n:=by
 unfold Id.builtin at ha
 simp only[cond_eq_ite] at ha
 repeat' (split at ha)
 all_goals first
  | (cases ha;done)
  | exact append_n ha
  | exact appendZ_n ha
  | exact copy_n ha
  | exact clear_n ha
  | exact map2_n ha
theorem store_n {P:Program} {h h':IH} {t:TypeId} {a v:Value} (hs:store P h t a v=some h'):h.n≤h'.n:=by
 unfold Id.store at hs
 simp only[cond_eq_ite] at hs
 repeat' (split at hs)
 all_goals first
  | (cases hs;done)
  | exact Nat.le_of_eq (wr_n hs).symm
theorem mapUpdate_n {P:Program} {h h':IH} {t:TypeId} {m k v:Value} (hs:mapUpdate P h t m k v=some h'):h.n≤h'.n:=by
 unfold Id.mapUpdate at hs
 simp only[cond_eq_ite] at hs
 repeat' (split at hs)
 all_goals first
  | (cases hs;done)
  | (cases hs;exact Nat.le_refl _)
theorem buildSlice_n {P:Program} {h h':IH} {t:TypeId} {len:Nat} {ps:List (Nat×Value)} {v:Value} (hs:buildSlice P h t len ps=some (v,h')):h.n≤h'.n:=by
 unfold Id.buildSlice at hs
 simp only[cond_eq_ite] at hs
 repeat' (split at hs)
 all_goals first
  | (cases hs;done)
  | (cases hs;exact Nat.le_succ _)
theorem makeSlice_n {P:Program} {h h':IH} {t:TypeId} {l c v:Value} (hs:makeSlice P h t l c=some (v,h')):h.n≤h'.n:=by
 unfold Id.makeSlice at hs
 simp only[cond_eq_ite] at hs
 repeat' (split at hs)
 all_goals first
  | (cases hs;done)
  | (cases hs;exact Nat.le_succ _)
theorem iop_n {P:Program} {fr:Fr} {o:Op} {h h':IH} {v:Value} (hi:iop P fr o h=some (v,h')):h.n≤h'.n:=by
 unfold iop at hi
 simp only[cond_eq_ite] at hi
 split at hi
 all_goals try (exact map2_n hi)
 all_goals repeat' (split at hi)
 all_goals first
  | (cases hi;done)
  | (cases hi;exact Nat.le_refl _)
  | (cases hi;exact Nat.le_succ _)
  | exact map2_n hi
  | exact builtin_n hi
  | (obtain⟨h1,h2,h3⟩:=Option.map_eq_some_iff.1 hi;cases h3;exact Nat.le_succ _)
  | (obtain⟨h1,h2,h3⟩:=Option.map_eq_some_iff.1 hi;cases h3;exact Nat.le_refl _)
  | (obtain⟨h1,h2,h3⟩:=Option.map_eq_some_iff.1 hi;cases h3;first|exact store_n h2|exact mapUpdate_n h2)
  | exact buildSlice_n hi
  | exact makeSlice_n hi
def CallMono (call:CallV):Prop:=∀(fv:Value) (vs:List Value) (h h':IH) (v:Value),call fv vs h=some (v,h')→h.n≤h'.n
theorem runOp_n {E:Env} {call:CallV} (hc:CallMono call) {fr:Fr} {o:Op} {h h':IH} {v:Value} (hr:runOp E call fr o h=some (v,h')):h.n≤h'.n:=by
 unfold runOp at hr
 split at hr
 ·split at hr
  ·split at hr
   ·exact hc _ _ _ _ _ hr
   ·cases hr
  ·exact iop_n hr
 ·exact iop_n hr
theorem stepOp_n {E:Env} {call:CallV} (hc:CallMono call) {nt:Nat} {ops:List Oper} {o:Oper} {fr fr':Fr} {h h':IH} (hs:stepOp E call nt ops o fr h=some (fr',h')):h.n≤h'.n:=by
 unfold stepOp at hs
 split at hs
 ·split at hs
  ·rename_i v h2 hrun
   obtain⟨a,_,e⟩:=Option.map_eq_some_iff.1 hs;cases e
   exact runOp_n hc hrun
  ·cases hs
 ·obtain⟨a,_,e⟩:=Option.map_eq_some_iff.1 hs;cases e;exact Nat.le_refl _
 ·cases hs
theorem runOps_n {E:Env} {call:CallV} (hc:CallMono call) {nt:Nat} {ops:List Oper} : ∀(l:List Oper) (fr fr':Fr) (h h':IH),runOps E call nt ops l fr h=some (fr',h')→h.n≤h'.n
 | [],fr,fr',h,h',hr=>by simp only[runOps] at hr;cases hr;exact Nat.le_refl _
 | o :: l,fr,fr',h,h',hr=>by
  rw[runOps] at hr
  split at hr
  ·rename_i fr1 h1 hs
   exact Nat.le_trans (stepOp_n hc hs) (runOps_n hc l _ _ _ _ hr)
  ·cases hr
def Invoked (P:Program) (fv:Value) (args:Array Value) (B:Nat) (w0:World) (m:Mp) (h:IH) (w:World) (v:Value) (h':IH):Prop :=
 ∃nx,(do let d ←Deferred.ofValue fv args;invoke d.target d.args:Sem Next).run P w=.ok nx w ∧
  ((∃v',nx=.value v'∧h'=h∧VRel m v v' ∧ ∀a∈args.toList,∃k n,a=Value.int k n) ∨
  ∃fr0,((∃f as,nx=.enter f as∧fr0=Frame.enter P f as .normal)∨(∃l f ts a c,nx=.round l f ts a c∧fr0=Frame.round l f ts a c .normal)) ∧
   ∀(c:Frame) (cs:List Frame),∃v' m' w',VRel m' v v'∧Rel B w0 m' h' w'∧Step m h w m' h' w'∧Steps P (lone fr0 (c :: cs) w) (lone (c.finish v') cs w'))
def CallSim (P:Program) (call:CallV):Prop :=
 ∀(fv:Value) (vs:List Value) (h h':IH) (v:Value),call fv vs h=some (v,h') → ∀(B:Nat) (w0:World) (m:Mp) (w:World) (fv':Value) (vs':Array Value),
  Rel B w0 m h w→VRel m fv fv'→LRel m vs vs'.toList→Fresh m h.n h'.n→Invoked P fv' vs' B w0 m h w v h'
theorem Fresh.sub {m:Mp} {a b c d:Nat} (h:Fresh m a d) (h1:a≤b) (h2:c≤d):Fresh m b c:=fun k x y=>h k (Nat.le_trans h1 x) (Nat.lt_of_lt_of_le y h2)
theorem Step.fresh {m m':Mp} {h h':IH} {w w':World} (s:Step m h w m' h' w') {c:Nat} (hf:Fresh m h.n c):Fresh m' h'.n c:=by
 intro k a b
 have h1:=hf k (Nat.le_trans s.n a) b
 apply Classical.byContradiction
 intro hne
 have hch:m' (2*k)≠m (2*k):=by rw[h1];exact hne
 obtain⟨k',e,_,c⟩:=s.new _ hch
 omega
theorem fput_rel {m:Mp} {nt:Nat} {fr fr':Fr} {tmps:Array Value} {dst:Option Tmp} {v v':Value} (hp:fput nt fr dst v=some fr') (hf:FrRel m fr tmps) (ht:nt≤tmps.size) (hv:VRel m v v'):FrRel m fr' (putT tmps dst v')∧nt≤(putT tmps dst v').size:=by
 unfold fput at hp
 cases dst with
 | none=>cases hp;exact⟨hf,ht⟩
 | some d =>
  simp only[cond_eq_ite,Nat.blt_eq] at hp
  by_cases hd:d<nt
  ·rw[if_pos hd] at hp;cases hp
   have hd2:d<tmps.size:=Nat.lt_of_lt_of_le hd ht
   refine⟨fun t x hx=>?_,by simpa [putT] using ht⟩
   simp only[fget,cond_eq_ite,beq_iff_eq] at hx
   by_cases e:d=t
   ·subst e
    rw[if_pos rfl] at hx;cases hx
    exact⟨v',by simp[putT,hd2],hv⟩
   ·rw[if_neg e] at hx
    obtain⟨x',h1,h2⟩:=hf t x hx
    exact⟨x',by simp[putT,e,h1],h2⟩
  ·rw[if_neg hd] at hp;cases hp
theorem FrRel.mono {m m':Mp} (hm:m.le m') {fr:Fr} {tmps:Array Value} (h:FrRel m fr tmps):FrRel m' fr tmps:=fun t v hv=>let ⟨v',a,b⟩:=h t v hv;⟨v',a,b.mono hm⟩
theorem wanted_rel {m:Mp} {fr:Fr} {tmps:Array Value} (hf:FrRel m fr tmps) {ops:Array Oper} {o:Oper} {t:Bool} (hw:wantedI ops.toList o fr=some t):Region.wanted o (yielded ops tmps)=t:=by
 unfold wantedI at hw
 unfold Region.wanted
 cases hg:o.guard with
 | none=>simp only[hg] at hw ⊢;cases hw;rfl
 | some jw =>
  obtain⟨j,want⟩:=jw
  simp only[hg] at hw ⊢
  split at hw
  ·rename_i d hd
   split at hw
   ·rename_i bb hb
    cases hw
    obtain⟨v',h1,h2⟩:=hf d _ hb
    have e:=h2.scal_eq rfl
    subst e
    have hd':(ops[j]?).bind (·.dst)=some d:=by simpa using hd
    simp only[yielded,hd',Option.bind_some,h1]
    cases bb<;>cases want<;>rfl
   ·rename_i bb hb
    cases hw
    obtain⟨v',h1,h2⟩:=hf d _ hb
    obtain⟨cs',rfl,_⟩:=h2.tuple_inv
    have hd':(ops[j]?).bind (·.dst)=some d:=by simpa using hd
    simp only[yielded,hd',Option.bind_some,h1]
    rfl
   ·cases hw
  ·cases hw
theorem runOp_notDefer {E:Env} {call:CallV} {fr:Fr} {o:Op} {h h':IH} {v:Value} (hr:runOp E call fr o h=some (v,h')) : ∀c,o≠.defer c:=by
 intro c e;subst e;simp[runOp,iop] at hr
theorem sim_op {E:Env} {call:CallV} (hcall:CallSim E.P call) {ops:Array Oper} {i:Nat} {o:Oper} (ho:ops[i]?=some o) {fr:Fr} {h h':IH} {v:Value}
  (hw:wantedI ops.toList o fr=some true) (hr:runOp E call fr o.op h=some (v,h'))
  {B:Nat} {w0:World} {m:Mp} {w:World} (R:Rel B w0 m h w) {tmps:Array Value} (hf:FrRel m fr tmps) (hfresh:Fresh m h.n h'.n) (b:Frame) (rest:List Nat) (k:List Item) (ds:List Deferred) (cs:List Frame) :
  ∃v' m' w',Steps E.P (lone (on b tmps (.inRegion ops (i :: rest) :: k) ds) cs w) (lone (on b (putT tmps o.dst v') (.inRegion ops rest :: k) ds) cs w')∧VRel m' v v'∧Rel B w0 m' h' w'∧Step m h w m' h' w':=by
 have hwr:=wanted_rel hf hw
 have hnd:=runOp_notDefer hr
 have hρ:=opd_evalT R hf
 have plainOp:iop E.P fr o.op h=some (v,h') → ∃v' m' w',Steps E.P (lone (on b tmps (.inRegion ops (i :: rest) :: k) ds) cs w) (lone (on b (putT tmps o.dst v') (.inRegion ops rest :: k) ds) cs w')∧VRel m' v v'∧Rel B w0 m' h' w'∧Step m h w m' h' w':=by
  intro hi
  obtain⟨nx,v',m',w',hrun,hy,h1,h2,h3⟩:=iop_sim R E.P hρ o hi hfresh
  refine⟨v',m',w',?_,h1,h2,h3⟩
  rcases hy with rfl|⟨rfl,rfl⟩
  ·exact .one (st_value ho hwr hnd hrun)
  ·exact .one (st_skipop ho hwr hnd hrun)
 unfold runOp at hr
 split at hr
 ·rename_i c hc
  split at hr
  ·rename_i f hcal
   split at hr
   ·rename_i fv vs hfv hvs
    have hL:=opds_rel hρ _ _ hvs
    obtain⟨nx,hinv,halt⟩:=hcall fv vs h h' v hr B w0 m w (evalT tmps f) (c.args.map (evalT tmps)) R (hρ f fv hfv) (by simpa using hL) hfresh
    have hexec:(execOp (evalT tmps) o).run E.P w=.ok nx w:=by
     rw[←hinv]
     obtain⟨dst,op,ty,pos,aft,gd⟩:=o
     simp only at hc;subst hc
     simp only[execOp,resolve,hcal,Sem.run_bind]
    rcases halt with⟨v',rfl,rfl,h1,_⟩|⟨fr0,hfr0,hrun⟩
    ·exact⟨v',m,w,.one (st_value ho hwr hnd hexec),h1,R,Step.refl _ _ _⟩
    obtain⟨v',m',w',h1,h2,h3,h4⟩:=hrun (on b tmps (.inRegion ops (i :: rest) :: k) ds) cs
    rw[finish_on ho] at h4
    refine⟨v',m',w',?_,h1,h2,h3⟩
    rcases hfr0 with⟨f',as,rfl,rfl⟩|⟨l,f',ts,a,c',rfl,rfl⟩
    ·exact .head (st_enter ho hwr hnd hexec) h4
    ·exact .head (st_round ho hwr hnd hexec) h4
   ·cases hr
  ·rename_i hcal
   rw[←hc] at hr
   exact plainOp hr
 ·exact plainOp hr
theorem sim_ops {E:Env} {call:CallV} (hcall:CallSim E.P call) (hmono:CallMono call) {nt:Nat} {ops:Array Oper} (b:Frame) (k:List Item) (ds:List Deferred) (cs:List Frame) {B:Nat} {w0:World} :
  ∀(l:List Oper) (j:Nat) (fr:Fr) (h:IH) (fr':Fr) (h':IH) (m:Mp) (w:World) (tmps:Array Value),ops.toList.drop j=l→runOps E call nt ops.toList l fr h=some (fr',h') →
   Rel B w0 m h w→FrRel m fr tmps→nt≤tmps.size→Fresh m h.n h'.n →
   ∃m' w' tmps',Steps E.P (lone (on b tmps (.inRegion ops (List.range' j l.length) :: k) ds) cs w) (lone (on b tmps' k ds) cs w')∧FrRel m' fr' tmps'∧nt≤tmps'.size∧Rel B w0 m' h' w'∧Step m h w m' h' w'
 | [],j,fr,h,fr',h',m,w,tmps,hl,hr,R,hf,ht,hfresh=>by
  simp only[runOps] at hr;cases hr
  exact⟨m,w,tmps,.one st_region_end,hf,ht,R,Step.refl _ _ _⟩
 | o :: l,j,fr,h,fr',h',m,w,tmps,hl,hr,R,hf,ht,hfresh=>by
  have ho:ops[j]?=some o:=by
   have:(ops.toList.drop j)[0]?=some o:=by rw[hl];rfl
   simpa using this
  have hl':ops.toList.drop (j+1)=l:=by
   rw[←List.drop_drop (i:=1) (j:=j),hl];rfl
  rw[runOps] at hr
  cases hs:stepOp E call nt ops.toList o fr h with
  | none=>simp[hs] at hr
  | some p =>
   obtain⟨fr1,h1⟩:=p
   simp only[hs] at hr
   unfold stepOp at hs
   rw[List.length_cons,List.range'_succ]
   split at hs
   ·rename_i hw
    split at hs
    ·rename_i v h2 hrun
     obtain⟨fr2,hput,he⟩:=Option.map_eq_some_iff.1 hs
     cases he
     have hn1:=runOp_n hmono hrun
     have hn2:=runOps_n hmono l _ _ _ _ hr
     obtain⟨v',m1,w1,hS1,hv',R1,S1⟩:=sim_op hcall ho hw hrun R hf (hfresh.sub (Nat.le_refl _) hn2) b (List.range' (j+1) l.length) k ds cs
     obtain⟨hf2,ht2⟩:=fput_rel hput (hf.mono S1.le) ht hv'
     obtain⟨m',w',tmps',hS,a,b',c,d⟩:=sim_ops hcall hmono b k ds cs l (j+1) _ _ fr' h' m1 w1 _ hl' hr R1 hf2 ht2 ((S1.fresh hfresh))
     exact⟨m',w',tmps',hS1.trans hS,a,b',c,S1.trans d⟩
    ·cases hs
   ·rename_i hw
    obtain⟨fr2,hput,he⟩:=Option.map_eq_some_iff.1 hs
    cases he
    obtain⟨hf2,ht2⟩:=fput_rel hput hf ht (VRel.undef m)
    obtain⟨m',w',tmps',hS,a,b',c,d⟩:=sim_ops hcall hmono b k ds cs l (j+1) _ _ fr' h' m w _ hl' hr R hf2 ht2 hfresh
    exact⟨m',w',tmps',.head (st_off ho (wanted_rel hf hw)) hS,a,b',c,d⟩
   ·cases hs
end Go.Id

namespace Go.Id
open Go Go.RowKit
theorem map_h {α : Type} {h h' : IH} {v : α} {o : Option α} (hm : o.map (·, h) = some (v, h')) : o = some v ∧ h' = h := by
  obtain ⟨a, ha, e⟩ := Option.map_eq_some_iff.1 hm; cases e; exact ⟨ha, rfl⟩
theorem iop_pure {P : Program} {fr : Fr} {o : Op} {h h' : IH} {v : Value} (hk : kindOf o = .pure) (hi : iop P fr o h = some (v, h')) : h' = h ∧ ∀ h2, iop P fr o h2 = some (v, h2) := by
  have mp : ∀ {o : Option Value}, o.map (·, h) = some (v, h') → h' = h ∧ ∀ h2 : IH, o.map (·, h2) = some (v, h2) := by
    intro o hm; obtain ⟨rfl, rfl⟩ := map_h hm; exact ⟨rfl, fun _ => rfl⟩
  unfold iop at hi ⊢
  cases o <;> simp only [kindOf, reduceCtorEq] at hk <;> simp only [cond_eq_ite] at hi ⊢
  case call c =>
    cases hc : c.callee with
    | builtin b =>
      simp only [hc] at hk hi ⊢
      cases b <;> simp only [reduceCtorEq] at hk
      all_goals
        split at hi
        · rename_i vs hvs
          simp only [Id.builtin, cond_eq_ite] at hi ⊢
          by_cases hp : vs.all plain = true
          · simp only [hp, if_true] at hi ⊢; exact mp hi
          · rw [if_neg hp] at hi; cases hi
        · cases hi
    | value f => simp [hc] at hk
    | invoke r n => simp [hc] at hk
  all_goals first
    | exact mp hi
    | (repeat' (split at hi)
       all_goals first
         | (cases hi; done)
         | exact mp hi
         | (cases hi; exact ⟨rfl, fun _ => rfl⟩)
         | (cases hi; refine ⟨rfl, fun _ => ?_⟩; simp_all; done)
         | (obtain ⟨a, ha, e⟩ := Option.map_eq_some_iff.1 hi; cases e; simp_all))
theorem iop_load {P : Program} {fr : Fr} {o : Op} {h h' : IH} {v : Value} (hk : kindOf o = .load) (hi : iop P fr o h = some (v, h')) : h' = h := by
  unfold iop at hi
  cases o <;> simp only [kindOf, reduceCtorEq] at hk <;> simp only [] at hi
  case call c =>
    cases hc : c.callee with
    | builtin b =>
      simp only [hc] at hk hi
      cases b <;> simp only [reduceCtorEq] at hk
      split at hi
      · rename_i vs hvs
        unfold Id.builtin at hi
        split at hi
        · split at hi
          · exact (map_h hi).2
          · cases hi
        all_goals first
          | (cases hi; done)
          | (rename_i hb; cases hb)
      · cases hi
    | value f => simp [hc] at hk
    | invoke r n => simp [hc] at hk
  all_goals
    repeat' (split at hi)
    all_goals first
      | (cases hi; done)
      | exact (map_h hi).2
def MakesOne (P : Program) (m : Mp) (w : World) (run : Result Next) (v : Value) (h h' : IH) (obj : IObj) : Prop :=
  h' = h.new obj ∧ obj.lone = true ∧ ∃ O v' z, run = .ok (.value v') (w.alloc O) ∧ ObjRel m (w.alloc O) w.heap.size 0 z obj ∧
    ∀ m' : Mp, m' (2 * h.n) = some (w.heap.size, 0) → VRel m' v v'
theorem rowNew {m : Mp} {w : World} {cs cs' : List Value} (hv : LRel m cs cs') (e : Nat) (t : TypeId) : ObjRel m (w.alloc (.cells cs'.toArray t)) w.heap.size 0 (e, 0) (.cells cs e none) :=
  ⟨cs'.toArray, t, by rw [heap_alloc, if_pos rfl], ⟨by simp [hv.1], fun i v hi => by obtain ⟨v', a, b⟩ := hv.get hi; exact ⟨v', by simpa using a, b⟩⟩, rfl, Nat.zero_le _⟩
theorem fromRow {P : Program} {m : Mp} {w : World} {h h' : IH} {run : Result Value} {nrun : Result Next} {v : Value} (M : MakesRow m w h h' run v) (hn : nrun = run.andThen fun a w' => .ok (.value a) w') :
    ∃ obj, MakesOne P m w nrun v h h' obj := by
  obtain ⟨cs, cs', e, t, v', rfl, hL, hrun, hv⟩ := M
  exact ⟨_, rfl, rfl, _, v', (e, 0), by rw [hn, hrun]; rfl, rowNew hL e t, hv⟩
theorem iop_alloc {P : Program} {fr : Fr} {m : Mp} {ρ : Operand → Value} (hρ : ∀ x v, opd fr x = some v → VRel m v (ρ x)) (oper : Oper) {h h' : IH} {v : Value} (hk : kindOf oper.op = .alloc) (hi : iop P fr oper.op h = some (v, h')) (w : World) :
    ∃ obj, MakesOne P m w ((execOp ρ oper).run P w) v h h' obj := by
  obtain ⟨dst, op, ty, pos, aft, gd⟩ := oper
  simp only at hk hi ⊢
  cases op <;> simp only [kindOf, reduceCtorEq] at hk
  case alloc t =>
    simp only [iop] at hi
    obtain ⟨z, hz, he⟩ := Option.map_eq_some_iff.1 hi
    cases he
    obtain ⟨zv, hz0, hzp, rfl⟩ := zeroCellsT_spec hz
    refine ⟨_, rfl, rfl, .cells zv.cells.toList.toArray t, .pointer (some ⟨w.heap.size, 0, none⟩), (0, 0), ?_, rowNew (VRel.plain_mk (m := m) hzp).cells 0 t, fun m' hm => VRel.ptr (s := 0) (o := 0) hm⟩
    simp only [execOp, Instr.alloc, Sem.run_bind, run_zeroT w hz0, Result.andThen_ok, newVar, Go.newRow, run_newObj, Sem.run_pure]; rfl
  case box t x =>
    simp only [iop] at hi
    obtain ⟨a, ha, he⟩ := Option.map_eq_some_iff.1 hi
    cases he
    refine ⟨_, rfl, rfl, .cells (ρ x).cells.toList.toArray t, .pointer (some ⟨w.heap.size, 0, none⟩), (0, 0), ?_, rowNew (hρ x a ha).cells 0 t, fun m' hm => VRel.ptr (s := 0) (o := 0) hm⟩
    simp only [execOp, Instr.box, Sem.run_bind, Result.andThen_ok, newVar, Go.newRow, run_newObj, Sem.run_pure]; rfl
  case buildSlice t len parts =>
    simp only [iop] at hi
    split at hi
    · rename_i ps hps
      exact fromRow (buildSlice_makes P hρ hps hi w) (by simp [execOp])
    · cases hi
  case makeMap t r =>
    have fin : ∀ {v h'}, some (Value.map (some (2 * h.n)), h.new (.map [])) = some (v, h') → ((Instr.makeMap t (r.map ρ)).run P w = .ok (.map (some w.heap.size)) (w.alloc (.map #[] 0))) →
        ∃ obj, MakesOne P m w ((execOp ρ { dst := dst, op := .makeMap t r, type := ty, pos := pos, after := aft, guard := gd }).run P w) v h h' obj := by
      intro v h' e hrun
      cases e
      exact ⟨_, rfl, rfl, .map #[] 0, .map (some w.heap.size), (0, 0), by simp [execOp, hrun], ⟨rfl, #[], by rw [heap_alloc, if_pos rfl]; rfl, rfl, by simp⟩, fun m' hm => .map hm⟩
    simp only [iop] at hi
    split at hi
    · exact fin hi (by simp only [Option.map_none, Instr.makeMap, Sem.run_bind, Sem.run_pure, Result.andThen_ok, run_newObj]; rfl)
    · rename_i x
      split at hi
      · rename_i k n kt et hx hu
        have := (hρ x _ hx).scal_eq rfl
        exact fin hi (by simp only [Option.map_some, this, Instr.makeMap, Sem.run_bind, Go.run_underlying hu, asInt, asIntOf, Sem.run_pure, Result.andThen_ok, run_newObj]; rfl)
      · cases hi
  case makeSlice t l c =>
    simp only [iop] at hi
    split at hi
    · rename_i a b ha hb
      exact fromRow (makeSlice_makes P hi (hρ l a ha) (hρ c b hb) w) (by simp [execOp])
    · cases hi
  case call c => cases hc : c.callee with
    | builtin b => cases b <;> simp_all
    | value f => simp_all
    | invoke r n => simp_all
end Go.Id
