/-
  The ideal machine: one operation and a region in the order of its text, on the model's mac
-/
import Derived.Test.YtnnmjocmapilaaaGreatOutlierRisesAd
set_option linter.unusedVariables false
set_option linter.unusedSimpArgs false
set_option linter.defProp false
set_option linter.deprecated false
namespace Go.Id
open Go Go.RowKit
def on (b:Frame) (tmps:Array Value) (todo:List Item) (ds:List Deferred):Frame :=
 { fn:=b.fn,tmps,todo,defers:=ds,mode:=.run,kind:=b.kind,roundOf:=b.roundOf }
def iE (tmps:Array Value):Operand→Value
 | .tmp t=>tmps.getD t undef
 | .const v=>v
 | .global g=>.pointer (some ⟨g,0,none⟩)
 | .func f=>.func (.func f) #[] #[]
def Fy (b:Frame) (tmps:Array Value) (todo:List Item) (ds:List Deferred):(on b tmps todo ds).eval=iE tmps:=by
 funext x;cases x<;>rfl
def sJ {B:Nat} {w0:World} {m:Mp} {h:IH} {w:World} (R:Rel B w0 m h w) {fr:Fr} {tmps:Array Value} (hf:dP m fr tmps) : ∀x v,opd fr x=some v→aG m v (iE tmps x):=by
 intro x v hx
 cases x with
 | tmp t =>
  simp only[opd] at hx
  obtain⟨v',h1,h2⟩:=hf t v hx
  simp only[iE,Array.getD_eq_getD_getElem?,h1,Option.getD_some]
  exact h2
 | const u =>
  simp only[opd,cond_eq_ite] at hx
  by_cases hp:plain u=true
  ·rw[if_pos hp] at hx;cases hx;exact .bV hp
  ·rw[if_neg hp] at hx;cases hx
 | global g =>
  simp only[opd,cond_eq_ite,Nat.blt,Nat.ble_eq] at hx
  split at hx
  case isFalse=>cases hx
  rename_i hg
  cases hx
  have:=aG.ptr (m:=m) (o:=0) (R.odd g hg)
  simpa [iE] using this
 | func f =>
  simp only[opd] at hx;cases hx
  exact aG.Fo rfl (.nil m) (.nil m)
section
variable {P:Program} {b:Frame} {tmps:Array Value} {ds:List Deferred} {k:List Item} {cs:List Frame} {w:World}
def Ul:step P (lone (on b tmps (.code .skip :: k) ds) cs w)=.next (lone (on b tmps k ds) cs w):=step_lone_go (by simp[stepG,stepG.exec,on])
variable {l:Nat}
def QC :step P (lone (on b tmps (.code (.label l) :: k) ds) cs w)=.next (lone (on b tmps k ds) cs w):=step_lone_go (by simp[stepG,stepG.exec,on])
variable {id:Nat}
def Jj :step P (lone (on b tmps (.inBlock id :: k) ds) cs w)=.next (lone (on b tmps k ds) cs w):=step_lone_go (by simp[stepG,stepG.exec,on])
variable {c:Code}
def Ji :step P (lone (on b tmps (.inScope c :: k) ds) cs w)=.next (lone (on b tmps k ds) cs w):=step_lone_go (by simp[stepG,stepG.exec,on])
variable {y x:Code}
def qP :step P (lone (on b tmps (.code (.seq x y) :: k) ds) cs w)=.next (lone (on b tmps (.code x :: .code y :: k) ds) cs w):=step_lone_go (by simp[stepG,stepG.exec,on])
def LG {c:Operand} {t:Bool} (h:iE tmps c=.bool t) :
  step P (lone (on b tmps (.code (.cond c x y) :: k) ds) cs w)=.next (lone (on b tmps (.code (if t then x else y) :: k) ds) cs w) :=
 step_lone_go (by
  have:=congrFun (Fy b tmps (.code (.cond c x y) :: k) ds) c
  simp only[on] at this
  simp[stepG,stepG.exec,on,this,h])
def uX :step P (lone (on b tmps (.code (.block id c) :: k) ds) cs w)=.next (lone (on b tmps (.code c :: .inBlock id :: k) ds) cs w):=step_lone_go (by simp[stepG,stepG.exec,on])
def zW :step P (lone (on b tmps (.code (.scope c) :: k) ds) cs w)=.next (lone (on b tmps (.code c :: .inScope c :: k) ds) cs w):=step_lone_go (by simp[stepG,stepG.exec,on])
def LF :step P (lone (on b tmps (.code (.loop c) :: k) ds) cs w)=.next (lone (on b tmps (.code c :: .inLoop c :: k) ds) cs w):=step_lone_go (by simp[stepG,stepG.exec,on])
def Cs :step P (lone (on b tmps (.inLoop c :: k) ds) cs w)=.next (lone (on b tmps (.code c :: .inLoop c :: k) ds) cs w):=step_lone_go (by simp[stepG,stepG.exec,on])
def Um {k':List Item} (h:exitTo id k=some k'):step P (lone (on b tmps (.code (.exit id) :: k) ds) cs w)=.next (lone (on b tmps k' ds) cs w):=step_lone_go (by simp[stepG,stepG.exec,on,h])
variable {ops:Array Oper}
def Cr :step P (lone (on b tmps (.code (.region id ops false) :: k) ds) cs w)=.next (lone (on b tmps (.inRegion ops (List.range ops.size) :: k) ds) cs w) :=
 step_lone_go (by simp[stepG,stepG.exec,on])
def zX :step P (lone (on b tmps (.code (.region id ops true) :: k) ds) cs w) =
  .next (lone (on b tmps (.inRegion ops (Region.schedule (P.follows .mixedOrders) ops (w.tape w.drawn (.order b.fn id))) :: k) ds) cs { w with drawn:=w.drawn+1 }) :=
 step_lone_go (by simp[stepG,stepG.exec,on,choose,Sem.run,Question.forced,Question.cut])
def nY :step P (lone (on b tmps (.inRegion ops [] :: k) ds) cs w)=.next (lone (on b tmps k ds) cs w):=step_lone_go (by simp[stepG,stepG.exec,on])
def oc (tmps:Array Value) (dst:Option Tmp) (v:Value):Array Value :=
 match dst with
 | some d=>tmps.setIfInBounds d v
 | none=>tmps
variable {rest:List Nat}{o:Oper}{i:Nat}
theorem sS (ho:ops[i]?=some o) (v:Value):(on b tmps (.inRegion ops (i :: rest) :: k) ds).finish v=on b (oc tmps o.dst v) (.inRegion ops rest :: k) ds:=by
 unfold Frame.finish on
 simp only[ho,Option.bind_some]
 cases o.dst<;>rfl
def QA (ho:ops[i]?=some o) (hw:Region.wanted o (yielded ops tmps)=false) :
  step P (lone (on b tmps (.inRegion ops (i :: rest) :: k) ds) cs w)=.next (lone (on b (oc tmps o.dst undef) (.inRegion ops rest :: k) ds) cs w):=by
 rw[←sS ho]
 exact step_lone_go (by
  have h':((ops[i]?).map (Region.wanted · (yielded ops tmps))).getD false=false:=by simp[ho,hw]
  simp only[on] at *
  simp[stepG,stepG.exec,h'])
theorem uU {rest:List Nat} (ho:ops[i]?=some o) (hw:Region.wanted o (yielded ops tmps)=true) (hnd : ∀c,o.op≠.defer c) :
  stepG P true { frame:=on b tmps (.inRegion ops (i :: rest) :: k) ds,callers:=cs,status:=.running,dying:=none } w =
   stepG.apply P true (on b tmps (.inRegion ops (i :: rest) :: k) ds) cs none (execOp (iE tmps) o) w:=by
 have he:=Fy b tmps (.inRegion ops (i :: rest) :: k) ds
 simp only[on] at he
 simp only[stepG,stepG.exec,on,ho,Option.map_some,hw,Option.getD_some,if_true,stepG.oper,Frame.oper?,he]
 cases hr:b.roundOf with
 | none=>simp
 | some l =>
  cases hop:o.op<;>simp_all
variable {w':World}
def qO {v:Value} (ho:ops[i]?=some o) (hw:Region.wanted o (yielded ops tmps)=true) (hnd : ∀c,o.op≠.defer c)
  (hr:(execOp (iE tmps) o).run P w=.ok (.value v) w') :
  step P (lone (on b tmps (.inRegion ops (i :: rest) :: k) ds) cs w)=.next (lone (on b (oc tmps o.dst v) (.inRegion ops rest :: k) ds) cs w'):=by
 rw[←sS ho]
 refine step_lone_go ?_
 rw[uU ho hw hnd]
 simp[stepG.apply,hr]
def N6 (ho:ops[i]?=some o) (hw:Region.wanted o (yielded ops tmps)=true) (hnd : ∀c,o.op≠.defer c)
  (hr:(execOp (iE tmps) o).run P w=.ok .skip w') :
  step P (lone (on b tmps (.inRegion ops (i :: rest) :: k) ds) cs w)=.next (lone (on b (oc tmps o.dst undef) (.inRegion ops rest :: k) ds) cs w'):=by
 rw[←sS ho]
 refine step_lone_go ?_
 rw[uU ho hw hnd]
 simp[stepG.apply,hr]
variable {f:FuncId}
def QD {args:Array Value} (ho:ops[i]?=some o) (hw:Region.wanted o (yielded ops tmps)=true) (hnd : ∀c,o.op≠.defer c)
  (hr:(execOp (iE tmps) o).run P w=.ok (.enter f args) w') :
  step P (lone (on b tmps (.inRegion ops (i :: rest) :: k) ds) cs w)=.next (lone (Frame.enter P f args .normal) (on b tmps (.inRegion ops (i :: rest) :: k) ds :: cs) w'):=by
 refine step_lone_go ?_
 rw[uU ho hw hnd]
 simp[stepG.apply,hr,on]
def Qz {ts:Array Value} {a:Code} (ho:ops[i]?=some o) (hw:Region.wanted o (yielded ops tmps)=true) (hnd : ∀c,o.op≠.defer c)
  (hr:(execOp (iE tmps) o).run P w=.ok (.round l f ts a c) w') :
  step P (lone (on b tmps (.inRegion ops (i :: rest) :: k) ds) cs w)=.next (lone (Frame.round l f ts a c .normal) (on b tmps (.inRegion ops (i :: rest) :: k) ds :: cs) w'):=by
 refine step_lone_go ?_
 rw[uU ho hw hnd]
 simp[stepG.apply,hr,on]
end
variable {b:Nat}{vs:List Value}{h h':IH}
def TW {o:Nat} (hw:h.wr b o vs=some h'):h'.n=h.n:=by
 unfold IH.wr at hw
 simp only[cond_eq_ite] at hw
 split at hw
 ·cases hw
 ·split at hw
  ·split at hw
   ·split at hw
    ·cases hw;rfl
    ·split at hw
     ·cases hw;rfl
     ·cases hw
   ·cases hw
  ·cases hw
variable {v s:Value}{st:TypeId}{x:Value}{P:Program}
def TF (ha:append P h st s x=some (v,h')):h.n≤h'.n:=by
 unfold Id.append at ha
 simp only[cond_eq_ite] at ha
 repeat' (split at ha)
 all_goals first
  | (cases ha;done)
  | (cases ha;exact Nat.le_refl _)
  | (cases ha;exact Nat.le_succ _)
  | (obtain⟨h1,h2,h3⟩:=Option.map_eq_some_iff.1 ha;cases h3;exact Nat.le_of_eq (TW h2).symm)
def PT (ha:nU P h st s x=some (v,h')):h.n≤h'.n:=by
 unfold Id.nU at ha
 simp only[cond_eq_ite] at ha
 repeat' (split at ha)
 all_goals first
  | (cases ha;done)
  | (cases ha;exact Nat.le_succ _)
def Zo {dt:TypeId} {d:Value} (ha:uD P h dt d s=some (v,h')):h.n≤h'.n:=by
 unfold Id.uD at ha
 simp only[cond_eq_ite] at ha
 repeat' (split at ha)
 all_goals first
  | (cases ha;done)
  | (cases ha;exact Nat.le_refl _)
  | (obtain⟨h1,h2,h3⟩:=Option.map_eq_some_iff.1 ha;cases h3;exact Nat.le_of_eq (TW h2).symm)
variable {t:TypeId}
def VN (ha:wu P h t x=some (v,h')):h.n≤h'.n:=by
 unfold Id.wu at ha
 simp only[cond_eq_ite] at ha
 repeat' (split at ha)
 all_goals first
  | (cases ha;done)
  | (cases ha;exact Nat.le_refl _)
  | (obtain⟨h1,h2,h3⟩:=Option.map_eq_some_iff.1 ha;cases h3;exact Nat.le_of_eq (TW h2).symm)
def J6 {o:Option Value} (ha:o.map (·,h)=some (v,h')):h.n≤h'.n:=by
 obtain⟨a,_,h3⟩:=Option.map_eq_some_iff.1 ha;cases h3;exact Nat.le_refl _
def PG {b:Builtin} {ts:Array TypeId} (ha:builtin P h b ts vs=some (v,h')):h.n≤h'.n:=by
 unfold Id.builtin at ha
 simp only[cond_eq_ite] at ha
 repeat' (split at ha)
 all_goals first
  | (cases ha;done)
  | exact TF ha
  | exact PT ha
  | exact Zo ha
  | exact VN ha
  | exact J6 ha
def Uk {a:Value} (hs:store P h t a v=some h'):h.n≤h'.n:=by
 unfold Id.store at hs
 simp only[cond_eq_ite] at hs
 repeat' (split at hs)
 all_goals first
  | (cases hs;done)
  | exact Nat.le_of_eq (TW hs).symm
def HO {m k:Value} (hs:mapUpdate P h t m k v=some h'):h.n≤h'.n:=by
 unfold Id.mapUpdate at hs
 simp only[cond_eq_ite] at hs
 repeat' (split at hs)
 all_goals first
  | (cases hs;done)
  | (cases hs;exact Nat.le_refl _)
def FM {len:Nat} {ps:List (Nat×Value)} (hs:buildSlice P h t len ps=some (v,h')):h.n≤h'.n:=by
 unfold Id.buildSlice at hs
 simp only[cond_eq_ite] at hs
 repeat' (split at hs)
 all_goals first
  | (cases hs;done)
  | (cases hs;exact Nat.le_succ _)
def HP {l c:Value} (hs:makeSlice P h t l c=some (v,h')):h.n≤h'.n:=by
 unfold Id.makeSlice at hs
 simp only[cond_eq_ite] at hs
 repeat' (split at hs)
 all_goals first
  | (cases hs;done)
  | (cases hs;exact Nat.le_succ _)
variable {fr:Fr}
def WO {o:Op} (hi:iop P fr o h=some (v,h')):h.n≤h'.n:=by
 unfold iop at hi
 simp only[cond_eq_ite] at hi
 split at hi
 all_goals try (exact J6 hi)
 all_goals repeat' (split at hi)
 all_goals first
  | (cases hi;done)
  | (cases hi;exact Nat.le_refl _)
  | (cases hi;exact Nat.le_succ _)
  | exact J6 hi
  | exact PG hi
  | (obtain⟨h1,h2,h3⟩:=Option.map_eq_some_iff.1 hi;cases h3;exact Nat.le_succ _)
  | (obtain⟨h1,h2,h3⟩:=Option.map_eq_some_iff.1 hi;cases h3;exact Nat.le_refl _)
  | (obtain⟨h1,h2,h3⟩:=Option.map_eq_some_iff.1 hi;cases h3;first|exact Uk h2|exact HO h2)
  | exact FM hi
  | exact HP hi
def dE (call:bU):Prop:=∀(fv:Value) (vs:List Value) (h h':IH) (v:Value),call fv vs h=some (v,h')→h.n≤h'.n
variable {call:bU}{E:Env}
def LQ (hc:dE call) {o:Op} (hr:dh E call fr o h=some (v,h')):h.n≤h'.n:=by
 unfold dh at hr
 split at hr
 ·split at hr
  ·split at hr
   ·exact hc _ _ _ _ _ hr
   ·cases hr
  ·exact WO hr
 ·exact WO hr
variable {o:Oper}{fr':Fr}{nt:Nat}
def zU (hc:dE call) {ops:List Oper} (hs:de E call nt ops o fr h=some (fr',h')):h.n≤h'.n:=by
 unfold de at hs
 split at hs
 ·split at hs
  ·rename_i v h2 bD
   obtain⟨a,_,e⟩:=Option.map_eq_some_iff.1 hs;cases e
   exact LQ hc bD
  ·cases hs
 ·obtain⟨a,_,e⟩:=Option.map_eq_some_iff.1 hs;cases e;exact Nat.le_refl _
 ·cases hs
def Ad (hc:dE call) {ops:List Oper} : ∀(l:List Oper) (fr fr':Fr) (h h':IH),fu E call nt ops l fr h=some (fr',h')→h.n≤h'.n
 | [],fr,fr',h,h',hr=>by simp only[fu] at hr;cases hr;exact Nat.le_refl _
 | o :: l,fr,fr',h,h',hr=>by
  rw[fu] at hr
  split at hr
  ·rename_i fr1 h1 hs
   exact Nat.le_trans (zU hc hs) (Ad hc l _ _ _ _ hr)
  ·cases hr
def VW (P:Program) (fv:Value) (args:Array Value) (B:Nat) (w0:World) (m:Mp) (h:IH) (w:World) (v:Value) (h':IH):Prop :=
 ∃nx,(do let d ←Deferred.ofValue fv args;invoke d.target d.args:Sem Next).run P w=.ok nx w ∧
  ((∃v',nx=.value v'∧h'=h∧aG m v v' ∧ ∀a∈args.toList,∃k n,a=Value.int k n) ∨
  ∃fr0,((∃f as,nx=.enter f as∧fr0=Frame.enter P f as .normal)∨(∃l f ts a c,nx=.round l f ts a c∧fr0=Frame.round l f ts a c .normal)) ∧
   ∀(c:Frame) (cs:List Frame),∃v' m' w',aG m' v v'∧Rel B w0 m' h' w'∧Step m h w m' h' w'∧Steps P (lone fr0 (c :: cs) w) (lone (c.finish v') cs w'))
def kP (P:Program) (call:bU):Prop :=
 ∀(fv:Value) (vs:List Value) (h h':IH) (v:Value),call fv vs h=some (v,h') → ∀(B:Nat) (w0:World) (m:Mp) (w:World) (fv':Value) (vs':Array Value),
  Rel B w0 m h w→aG m fv fv'→bw m vs vs'.toList→eH m h.n h'.n→VW P fv' vs' B w0 m h w v h'
variable {m:Mp}{c:Nat}
def eH.sub {a d:Nat} (h:eH m a d) (h1:a≤b) (h2:c≤d):eH m b c:=fun k x y=>h k (Nat.le_trans h1 x) (Nat.lt_of_lt_of_le y h2)
variable {w:World}{m':Mp}
def Step.fresh {w':World} (s:Step m h w m' h' w') (hf:eH m h.n c):eH m' h'.n c:=by
 intro k a b
 have h1:=hf k (Nat.le_trans s.n a) b
 apply Classical.byContradiction
 intro hne
 have hch:m' (2*k)≠m (2*k):=by rw[h1];exact hne
 obtain⟨k',e,_,c⟩:=s.new _ hch
 omega
variable {tmps:Array Value}
def rM {dst:Option Tmp} {v':Value} (hp:nh nt fr dst v=some fr') (hf:dP m fr tmps) (ht:nt≤tmps.size) (hv:aG m v v'):dP m fr' (oc tmps dst v')∧nt≤(oc tmps dst v').size:=by
 unfold nh at hp
 cases dst with
 | none=>cases hp;exact⟨hf,ht⟩
 | some d =>
  simp only[cond_eq_ite,Nat.blt_eq] at hp
  by_cases hd:d<nt
  ·rw[if_pos hd] at hp;cases hp
   have hd2:d<tmps.size:=Nat.lt_of_lt_of_le hd ht
   refine⟨fun t x hx=>?_,by simpa [oc] using ht⟩
   simp only[ab,cond_eq_ite,beq_iff_eq] at hx
   by_cases e:d=t
   ·subst e
    rw[if_pos rfl] at hx;cases hx
    exact⟨v',by simp[oc,hd2],hv⟩
   ·rw[if_neg e] at hx
    obtain⟨x',h1,h2⟩:=hf t x hx
    exact⟨x',by simp[oc,e,h1],h2⟩
  ·rw[if_neg hd] at hp;cases hp
def dP.mono (hm:m.le m') (h:dP m fr tmps):dP m' fr tmps:=fun t v hv=>let ⟨v',a,b⟩:=h t v hv;⟨v',a,b.mono hm⟩
variable {ops:Array Oper}
def pe (hf:dP m fr tmps) {t:Bool} (hw:bE ops.toList o fr=some t):Region.wanted o (yielded ops tmps)=t:=by
 unfold bE at hw
 unfold Region.wanted
 cases hg:o.guard with
 | none=>simp only[hg] at hw ⊢;cases hw;rfl
 | some jw =>
  obtain⟨j,want⟩:=jw
  simp only[hg] at hw ⊢
  split at hw
  ·rename_i d hd
   split at hw
   ·rename_i bb hb
    cases hw
    obtain⟨v',h1,h2⟩:=hf d _ hb
    have e:=h2.cu rfl
    subst e
    have hd':(ops[j]?).bind (·.dst)=some d:=by simpa using hd
    simp only[yielded,hd',Option.bind_some,h1]
    cases bb<;>cases want<;>rfl
   ·rename_i bb hb
    cases hw
    obtain⟨v',h1,h2⟩:=hf d _ hb
    obtain⟨cs',rfl,_⟩:=h2.oE
    have hd':(ops[j]?).bind (·.dst)=some d:=by simpa using hd
    simp only[yielded,hd',Option.bind_some,h1]
    rfl
   ·cases hw
  ·cases hw
def Ae {o:Op} (hr:dh E call fr o h=some (v,h')) : ∀c,o≠.defer c:=by
 intro c e;subst e;simp[dh,iop] at hr
variable {w0:World}{B:Nat}
def Jo (fP:kP E.P call) {i:Nat} (ho:ops[i]?=some o) 
  (hw:bE ops.toList o fr=some true) (hr:dh E call fr o.op h=some (v,h'))
  (R:Rel B w0 m h w) (hf:dP m fr tmps) (cH:eH m h.n h'.n) (b:Frame) (rest:List Nat) (k:List Item) (ds:List Deferred) (cs:List Frame) :
  ∃v' m' w',Steps E.P (lone (on b tmps (.inRegion ops (i :: rest) :: k) ds) cs w) (lone (on b (oc tmps o.dst v') (.inRegion ops rest :: k) ds) cs w')∧aG m' v v'∧Rel B w0 m' h' w'∧Step m h w m' h' w':=by
 have hwr:=pe hf hw
 have hnd:=Ae hr
 have hρ:=sJ R hf
 have Mh:iop E.P fr o.op h=some (v,h') → ∃v' m' w',Steps E.P (lone (on b tmps (.inRegion ops (i :: rest) :: k) ds) cs w) (lone (on b (oc tmps o.dst v') (.inRegion ops rest :: k) ds) cs w')∧aG m' v v'∧Rel B w0 m' h' w'∧Step m h w m' h' w':=by
  intro hi
  obtain⟨nx,v',m',w',bD,hy,h1,h2,h3⟩:=Vl R E.P hρ o hi cH
  refine⟨v',m',w',?_,h1,h2,h3⟩
  rcases hy with rfl|⟨rfl,rfl⟩
  ·exact .one (qO ho hwr hnd bD)
  ·exact .one (N6 ho hwr hnd bD)
 unfold dh at hr
 split at hr
 ·rename_i c hc
  split at hr
  ·rename_i f hcal
   split at hr
   ·rename_i fv vs hfv hvs
    have hL:=rh hρ _ _ hvs
    obtain⟨nx,hinv,halt⟩:=fP fv vs h h' v hr B w0 m w (iE tmps f) (c.args.map (iE tmps)) R (hρ f fv hfv) (by simpa using hL) cH
    have Sh:(execOp (iE tmps) o).run E.P w=.ok nx w:=by
     rw[←hinv]
     obtain⟨dst,op,ty,pos,aft,gd⟩:=o
     simp only at hc;subst hc
     simp only[execOp,resolve,hcal,Sem.run_bind]
    rcases halt with⟨v',rfl,rfl,h1,_⟩|⟨fr0,YT,bD⟩
    ·exact⟨v',m,w,.one (qO ho hwr hnd Sh),h1,R,Step.refl _ _ _⟩
    obtain⟨v',m',w',h1,h2,h3,h4⟩:=bD (on b tmps (.inRegion ops (i :: rest) :: k) ds) cs
    rw[sS ho] at h4
    refine⟨v',m',w',?_,h1,h2,h3⟩
    rcases YT with⟨f',as,rfl,rfl⟩|⟨l,f',ts,a,c',rfl,rfl⟩
    ·exact .head (QD ho hwr hnd Sh) h4
    ·exact .head (Qz ho hwr hnd Sh) h4
   ·cases hr
  ·rename_i hcal
   rw[←hc] at hr
   exact Mh hr
 ·exact Mh hr
def En (fP:kP E.P call) (cP:dE call) (b:Frame) (k:List Item) (ds:List Deferred) (cs:List Frame) :
  ∀(l:List Oper) (j:Nat) (fr:Fr) (h:IH) (fr':Fr) (h':IH) (m:Mp) (w:World) (tmps:Array Value),ops.toList.drop j=l→fu E call nt ops.toList l fr h=some (fr',h') →
   Rel B w0 m h w→dP m fr tmps→nt≤tmps.size→eH m h.n h'.n →
   ∃m' w' bQ,Steps E.P (lone (on b tmps (.inRegion ops (List.range' j l.length) :: k) ds) cs w) (lone (on b bQ k ds) cs w')∧dP m' fr' bQ∧nt≤bQ.size∧Rel B w0 m' h' w'∧Step m h w m' h' w'
 | [],j,fr,h,fr',h',m,w,tmps,hl,hr,R,hf,ht,cH=>by
  simp only[fu] at hr;cases hr
  exact⟨m,w,tmps,.one nY,hf,ht,R,Step.refl _ _ _⟩
 | o :: l,j,fr,h,fr',h',m,w,tmps,hl,hr,R,hf,ht,cH=>by
  have ho:ops[j]?=some o:=by
   have:(ops.toList.drop j)[0]?=some o:=by rw[hl];rfl
   simpa using this
  have hl':ops.toList.drop (j+1)=l:=by
   rw[←List.drop_drop (i:=1) (j:=j),hl];rfl
  rw[fu] at hr
  cases hs:de E call nt ops.toList o fr h with
  | none=>simp[hs] at hr
  | some p =>
   obtain⟨fr1,h1⟩:=p
   simp only[hs] at hr
   unfold de at hs
   rw[List.length_cons,List.range'_succ]
   split at hs
   ·rename_i hw
    split at hs
    ·rename_i v h2 bD
     obtain⟨fr2,jE,he⟩:=Option.map_eq_some_iff.1 hs
     cases he
     have hn1:=LQ cP bD
     have hn2:=Ad cP l _ _ _ _ hr
     obtain⟨v',m1,w1,hS1,hv',R1,S1⟩:=Jo fP ho hw bD R hf (cH.sub (Nat.le_refl _) hn2) b (List.range' (j+1) l.length) k ds cs
     obtain⟨hf2,ht2⟩:=rM jE (hf.mono S1.le) ht hv'
     obtain⟨m',w',bQ,hS,a,b',c,d⟩:=En fP cP b k ds cs l (j+1) _ _ fr' h' m1 w1 _ hl' hr R1 hf2 ht2 ((S1.fresh cH))
     exact⟨m',w',bQ,hS1.trans hS,a,b',c,S1.trans d⟩
    ·cases hs
   ·rename_i hw
    obtain⟨fr2,jE,he⟩:=Option.map_eq_some_iff.1 hs
    cases he
    obtain⟨hf2,ht2⟩:=rM jE hf ht (aG.undef m)
    obtain⟨m',w',bQ,hS,a,b',c,d⟩:=En fP cP b k ds cs l (j+1) _ _ fr' h' m w _ hl' hr R hf2 ht2 cH
    exact⟨m',w',bQ,.head (QA ho (pe hf hw)) hS,a,b',c,d⟩
   ·cases hs
variable {h h':IH}
def RN {α : Type} {v : α} {o : Option α} (hm : o.map (·, h) = some (v, h')) : o = some v ∧ h' = h := by
  obtain ⟨a, ha, e⟩ := Option.map_eq_some_iff.1 hm; cases e; exact ⟨ha, rfl⟩
variable {o:Op}{v:Value}{fr:Fr}{P:Program}
def AR (hk : cL o = .pure) (hi : iop P fr o h = some (v, h')) : h' = h ∧ ∀ h2, iop P fr o h2 = some (v, h2) := by
  have mp : ∀ {o : Option Value}, o.map (·, h) = some (v, h') → h' = h ∧ ∀ h2 : IH, o.map (·, h2) = some (v, h2) := by
    intro o hm; obtain ⟨rfl, rfl⟩ := RN hm; exact ⟨rfl, fun _ => rfl⟩
  unfold iop at hi ⊢
  cases o <;> simp only [cL, reduceCtorEq] at hk <;> simp only [cond_eq_ite] at hi ⊢
  case call c =>
    cases hc : c.callee with
    | builtin b =>
      simp only [hc] at hk hi ⊢
      cases b <;> simp only [reduceCtorEq] at hk
      all_goals
        split at hi
        · rename_i vs hvs
          simp only [Id.builtin, cond_eq_ite] at hi ⊢
          by_cases hp : vs.all plain = true
          · simp only [hp, if_true] at hi ⊢; exact mp hi
          · rw [if_neg hp] at hi; cases hi
        · cases hi
    | value f => simp [hc] at hk
    | invoke r n => simp [hc] at hk
  all_goals first
    | exact mp hi
    | (repeat' (split at hi)
       all_goals first
         | (cases hi; done)
         | exact mp hi
         | (cases hi; exact ⟨rfl, fun _ => rfl⟩)
         | (cases hi; refine ⟨rfl, fun _ => ?_⟩; simp_all; done)
         | (obtain ⟨a, ha, e⟩ := Option.map_eq_some_iff.1 hi; cases e; simp_all))
theorem AS (hk : cL o = .load) (hi : iop P fr o h = some (v, h')) : h' = h := by
  unfold iop at hi
  cases o <;> simp only [cL, reduceCtorEq] at hk <;> simp only [] at hi
  case call c =>
    cases hc : c.callee with
    | builtin b =>
      simp only [hc] at hk hi
      cases b <;> simp only [reduceCtorEq] at hk
      split at hi
      · rename_i vs hvs
        unfold Id.builtin at hi
        split at hi
        · split at hi
          · exact (RN hi).2
          · cases hi
        all_goals first
          | (cases hi; done)
          | (rename_i hb; cases hb)
      · cases hi
    | value f => simp [hc] at hk
    | invoke r n => simp [hc] at hk
  all_goals
    repeat' (split at hi)
    all_goals first
      | (cases hi; done)
      | exact (RN hi).2
def BR (P : Program) (m : Mp) (w : World) (run : Result Next) (v : Value) (h h' : IH) (obj : bI) : Prop :=
  h' = h.new obj ∧ obj.lone = true ∧ ∃ O v' z, run = .ok (.value v') (w.alloc O) ∧ fY m (w.alloc O) w.heap.size 0 z obj ∧
    ∀ m' : Mp, m' (2 * h.n) = some (w.heap.size, 0) → aG m' v v'
variable {w:World}{m:Mp}
def Ju {cs cs' : List Value} (hv : bw m cs cs') (e : Nat) (t : TypeId) : fY m (w.alloc (.cells cs'.toArray t)) w.heap.size 0 (e, 0) (.cells cs e none) :=
  ⟨cs'.toArray, t, by rw [heap_alloc, if_pos rfl], ⟨by simp [hv.1], fun i v hi => by obtain ⟨v', a, b⟩ := hv.get hi; exact ⟨v', by simpa using a, b⟩⟩, rfl, Nat.zero_le _⟩
def M6 {run : Result Value} {nrun : Result Next} (M : rY m w h h' run v) (hn : nrun = run.andThen fun a w' => .ok (.value a) w') :
    ∃ obj, BR P m w nrun v h h' obj := by
  obtain ⟨cs, cs', e, t, v', rfl, hL, bD, hv⟩ := M
  exact ⟨_, rfl, rfl, _, v', (e, 0), by rw [hn, bD]; rfl, Ju hL e t, hv⟩
def Pb {ρ : Operand → Value} (hρ : ∀ x v, opd fr x = some v → aG m v (ρ x)) (oper : Oper) (hk : cL oper.op = .alloc) (hi : iop P fr oper.op h = some (v, h')) (w : World) :
    ∃ obj, BR P m w ((execOp ρ oper).run P w) v h h' obj := by
  obtain ⟨dst, op, ty, pos, aft, gd⟩ := oper
  simp only at hk hi ⊢
  cases op <;> simp only [cL, reduceCtorEq] at hk
  case alloc t =>
    simp only [iop] at hi
    obtain ⟨z, hz, he⟩ := Option.map_eq_some_iff.1 hi
    cases he
    obtain ⟨zv, hz0, hzp, rfl⟩ := dc hz
    refine ⟨_, rfl, rfl, .cells zv.cells.toList.toArray t, .pointer (some ⟨w.heap.size, 0, none⟩), (0, 0), ?_, Ju (aG.bV (m := m) hzp).cells 0 t, fun m' hm => aG.ptr (s := 0) (o := 0) hm⟩
    simp only [execOp, Instr.alloc, Sem.run_bind, dY w hz0, Result.andThen_ok, newVar, Go.newRow, run_newObj, Sem.run_pure]; rfl
  case box t x =>
    simp only [iop] at hi
    obtain ⟨a, ha, he⟩ := Option.map_eq_some_iff.1 hi
    cases he
    refine ⟨_, rfl, rfl, .cells (ρ x).cells.toList.toArray t, .pointer (some ⟨w.heap.size, 0, none⟩), (0, 0), ?_, Ju (hρ x a ha).cells 0 t, fun m' hm => aG.ptr (s := 0) (o := 0) hm⟩
    simp only [execOp, Instr.box, Sem.run_bind, Result.andThen_ok, newVar, Go.newRow, run_newObj, Sem.run_pure]; rfl
  case buildSlice t len parts =>
    simp only [iop] at hi
    split at hi
    · rename_i ps hps
      exact M6 (oY P hρ hps hi w) (by simp [execOp])
    · cases hi
  case makeMap t r =>
    have fin : ∀ {v h'}, some (Value.map (some (2 * h.n)), h.new (.map [])) = some (v, h') → ((Instr.makeMap t (r.map ρ)).run P w = .ok (.map (some w.heap.size)) (w.alloc (.map #[] 0))) →
        ∃ obj, BR P m w ((execOp ρ { dst := dst, op := .makeMap t r, type := ty, pos := pos, after := aft, guard := gd }).run P w) v h h' obj := by
      intro v h' e bD
      cases e
      exact ⟨_, rfl, rfl, .map #[] 0, .map (some w.heap.size), (0, 0), by simp [execOp, bD], ⟨rfl, #[], by rw [heap_alloc, if_pos rfl]; rfl, rfl, by simp⟩, fun m' hm => .map hm⟩
    simp only [iop] at hi
    split at hi
    · exact fin hi (by simp only [Option.map_none, Instr.makeMap, Sem.run_bind, Sem.run_pure, Result.andThen_ok, run_newObj]; rfl)
    · rename_i x
      split at hi
      · rename_i k n kt et hx hu
        have := (hρ x _ hx).cu rfl
        exact fin hi (by simp only [Option.map_some, this, Instr.makeMap, Sem.run_bind, Go.run_underlying hu, asInt, asIntOf, Sem.run_pure, Result.andThen_ok, run_newObj]; rfl)
      · cases hi
  case makeSlice t l c =>
    simp only [iop] at hi
    split at hi
    · rename_i a b ha hb
      exact M6 (qi P hi (hρ l a ha) (hρ c b hb) w) (by simp [execOp])
    · cases hi
  case call c => cases hc : c.callee with
    | builtin b => cases b <;> simp_all
    | value f => simp_all
    | invoke r n => simp_all
variable {a b:Value}
theorem SD (h:eqS a b=true):a=b:=by
 unfold eqS at h
 split at h
 case h_3 a b =>
  simp only[beq_iff_eq] at h
  have:a=b:=by cases a;cases b;simp only at h;rw[Array.toList_inj.1 h]
  rw[this]
 all_goals simp_all
theorem Fz : ∀{a b:List Value},eqL a b=true→a=b
 | [],[],_=>rfl
 | [],_ :: _,h=>by simp[eqL] at h
 | _ :: _,[],h=>by simp[eqL] at h
 | x :: a,y :: b,h=>by
  simp only[eqL,Bool.and_eq_true] at h
  rw[SD h.1,Fz h.2]
theorem SE (h:eqA a b=true):a=b:=by
 unfold eqA at h
 split at h
 ·rw[Array.toList_inj.1 (Fz h)]
 ·simp only[Bool.and_eq_true,beq_iff_eq] at h
  rw[h.1.1,Array.toList_inj.1 (Fz h.1.2),Array.toList_inj.1 (Fz h.2)]
 ·exact SD h
theorem SC : ∀{a b:List Value},eqT a b=true→a=b
 | [],[],_=>rfl
 | [],_ :: _,h=>by simp[eqT] at h
 | _ :: _,[],h=>by simp[eqT] at h
 | x :: a,y :: b,h=>by
  simp only[eqT,Bool.and_eq_true] at h
  rw[SE h.1,SC h.2]
def VF (h:Zf a b=true):a=b:=by
 unfold Zf at h
 split at h
 ·rw[Array.toList_inj.1 (SC h)]
 ·exact SE h
theorem Y9 (h:eqV a b=true):a=b:=by
 simp only[eqV,Bool.or_eq_true,decide_eq_true_eq] at h
 exact h.elim VF id
theorem gE (fr:Fr) : ∀(l:List Nat) (t:Nat),ab (eh fr l) t=if t∈l then ab fr t else none
 | [],t=>by simp[eh,ab]
 | a :: l,t=>by
  rw[eh]
  cases ha:ab fr a with
  | none =>
   simp only[gE fr l t]
   by_cases h1:t∈l
   ·simp[h1]
   ·by_cases h2:t=a
    ·subst h2;simp[h1,ha]
    ·simp[h1,h2]
  | some v =>
   simp only[ab,cond_eq_ite,beq_iff_eq,gE fr l t]
   by_cases h2:a=t
   ·subst h2;simp[ha]
   ·by_cases h1:t∈l
    ·simp[h1,h2]
    ·have : ¬t=a:=fun e=>h2 e.symm
     simp[h1,h2,this]
variable {fr2 fr:Fr}
theorem mG : ∀(l:List Operand),(∀x∈l,opd fr x=opd fr2 x)→gL fr l=gL fr2 l
 | [],_=>rfl
 | x :: l,h=>by rw[gL,gL,h x (by simp),mG l (fun y hy=>h y (by simp[hy]))]
theorem og : ∀(l:List (Nat×Operand)),(∀x∈l.map (·.2),opd fr x=opd fr2 x)→partsOf fr l=partsOf fr2 l
 | [],_=>rfl
 | (i,x) :: l,h=>by rw[partsOf,partsOf,h x (by simp),og l (fun y hy=>h y (by simp only[List.map_cons,List.mem_cons];exact .inr hy))]
theorem pP {o:Option Operand} (h : ∀x∈o.toArray,opd fr x=opd fr2 x):dr fr o=dr fr2 o:=by
 cases o with
 | none=>rfl
 | some x=>simp only[dr];rw[h x (by simp)]
theorem xg {P:Program} {o:Op} (h : ∀x∈o.operands,opd fr x=opd fr2 x) (hp:IH):iop P fr o hp=iop P fr2 o hp:=by
 cases o<;>simp only[Op.operands] at h<;>simp only[iop]
 case move x=>rw[h x (by simp)]
 case assign x=>rw[h x (by simp)]
 case pick c a b=>rw[h c (by simp),h a (by simp),h b (by simp)]
 case box t x=>rw[h x (by simp)]
 case build t ps=>rw[og ps.toList (fun x hx=>h x (by simpa using hx))]
 case buildSlice t n ps=>rw[og ps.toList (fun x hx=>h x (by simpa using hx))]
 case load t a=>rw[h a (by simp)]
 case store t a v=>rw[h a (by simp),h v (by simp)]
 case nilCheck x=>rw[h x (by simp)]
 case binOp op t x y yt=>rw[h x (by simp),h y (by simp)]
 case unOp op t x=>rw[h x (by simp)]
 case convert s d x=>rw[h x (by simp)]
 case sliceToArrayPointer t x=>rw[h x (by simp)]
 case makeFunc fn first cap =>
  rw[mG first.toList (fun x hx=>h x (by simp at hx ⊢;exact .inl hx)),mG cap.toList (fun x hx=>h x (by simp at hx ⊢;exact .inr hx))]
 case makeMap t r=>cases r with
  | none=>rfl
  | some x=>simp only;rw[h x (by simp)]
 case makeSlice t l c=>rw[h l (by simp),h c (by simp)]
 case slice t x lo hi mx =>
  rw[h x (by simp),pP (o:=lo) (fun y hy=>h y (by simp at hy ⊢;simp[hy])),pP (o:=hi) (fun y hy=>h y (by simp at hy ⊢;simp[hy])),pP (o:=mx) (fun y hy=>h y (by simp at hy ⊢;simp[hy]))]
 case fieldAddr t x f=>rw[h x (by simp)]
 case field t x f=>rw[h x (by simp)]
 case indexAddr t x i=>rw[h x (by simp),h i (by simp)]
 case index t x i=>rw[h x (by simp),h i (by simp)]
 case lookup t m k ok=>rw[h m (by simp),h k (by simp)]
 case mapUpdate t m k v=>rw[h m (by simp),h k (by simp),h v (by simp)]
 case insert t m k v=>rw[h m (by simp),h k (by simp),h v (by simp)]
 case extract x i=>rw[h x (by simp)]
 case range t x=>rw[h x (by simp)]
 case entry x=>rw[h x (by simp)]
 case call c =>
  cases hc:c.callee with
  | builtin b=>simp only;rw[mG c.args.toList (fun x hx=>h x (by simp[Call.operands,hc];simpa using hx))]
  | value f=>rfl
  | invoke r n=>rfl
variable {call:bU}{E:Env}
def G5 {o:Op} (h : ∀x∈o.operands,opd fr x=opd fr2 x) (hp:IH):dh E call fr o hp=dh E call fr2 o hp:=by
 unfold dh
 split
 ·rename_i c
  split
  ·rename_i f hc
   simp only[Op.operands,Call.operands,hc] at h
   rw[h f (by simp),mG c.args.toList (fun x hx=>h x (by simp;exact .inr (by simpa using hx)))]
  ·exact xg h hp
 ·exact xg h hp
theorem Hq (fr:Fr) (ops:List Oper) (o:Oper) : ∀x∈o.op.operands,opd (eh fr (reads ops o)) x=opd fr x:=by
 intro x hx
 cases x with
 | tmp t =>
  simp only[opd,gE]
  rw[if_pos ?_]
  unfold reads tmpsOf
  exact List.mem_append_left _ (List.mem_filterMap.2 ⟨.tmp t,by simpa using hx,rfl⟩)
 | _=>rfl
theorem xM (fr:Fr) (ops:List Oper) (o:Oper):bE ops o (eh fr (reads ops o))=bE ops o fr:=by
 unfold bE
 cases hg:o.guard with
 | none=>rfl
 | some jw =>
  obtain⟨j,want⟩:=jw
  simp only
  cases hd:(ops[j]?).bind (·.dst) with
  | none=>rfl
  | some d =>
   simp only
   rw[gE,if_pos ?_]
   unfold reads
   exact List.mem_append_right _ (by simp[hg,hd])
variable {ops:List Oper}
def pg {nt:Nat} : ∀(l:List Oper) (fr:Fr) (h:IH) (tr:List (Fr×IH)),trace E call nt ops l fr h=some tr →
  tr.length=l.length+1∧tr[0]?=some (fr,h) ∧ ∀(i:Nat) (o:Oper),l[i]?=some o → ∃fr1 h1 fr2 h2,tr[i]?=some (fr1,h1)∧tr[i+1]?=some (fr2,h2)∧de E call nt ops o fr1 h1=some (fr2,h2)
 | [],fr,h,tr,ht=>by simp only[trace] at ht;cases ht;exact⟨rfl,rfl,by simp⟩
 | o :: l,fr,h,tr,ht=>by
  rw[trace] at ht
  split at ht
  ·rename_i fr' h' hs
   obtain⟨tr',h1,rfl⟩:=Option.map_eq_some_iff.1 ht
   obtain⟨a,b,c⟩:=pg l fr' h' tr' h1
   refine⟨by simp[a],rfl,fun i o' hi=>?_⟩
   cases i with
   | zero=>simp at hi;subst hi;exact⟨fr,h,fr',h',rfl,by simpa using b,hs⟩
   | succ i=>simp at hi;obtain⟨x1,x2,x3,x4,y1,y2,y3⟩:=c i o' hi;exact⟨x1,x2,x3,x4,by simpa using y1,by simpa using y2,y3⟩
  ·cases ht
theorem uT (acc:List Nat) (i:Nat) : ∀(es:List Edge),(es.foldr (fun e s=>bif Region.binds .any e then s ||| 2 ^ e.on ||| acc.getD e.on 0 else s) 0).testBit i=es.any (fun e=>Region.binds .any e && (e.on == i || (acc.getD e.on 0).testBit i))
 | []=>by simp
 | e :: es=>by
  rw[List.foldr_cons,List.any_cons,←uT acc i es]
  cases hb:Region.binds .any e with
  | false=>simp
  | true =>
   simp only[cond_true,Nat.testBit_or,Nat.testBit_two_pow,Bool.true_and]
   have:decide (e.on=i)=(e.on == i):=by by_cases h:e.on=i<;>simp[h]
   rw[this]
   cases(List.foldr (fun e s=>bif Region.binds .any e then s ||| 2 ^ e.on ||| acc.getD e.on 0 else s) 0 es).testBit i<;>cases(e.on == i)<;>cases(acc.getD e.on 0).testBit i<;>rfl
def AF : ∀(l:List Oper) (acc:List Nat),(qh acc l).length=acc.length+l.length∧(qh acc l).take acc.length=acc ∧
  ∀(j:Nat) (o:Oper),l[j]?=some o→(qh acc l)[acc.length+j]?=some (uo ((qh acc l).take (acc.length+j)) o)
 | [],acc=>by simp[qh]
 | o :: l,acc=>by
  obtain⟨h1,h2,h3⟩:=AF l (acc ++ [uo acc o])
  rw[qh]
  simp only[List.length_append,List.length_cons,List.length_nil] at h1 h2 h3
  have hpre:(qh (acc ++ [uo acc o]) l).take acc.length=acc:=by
   have:=congrArg (List.take acc.length) h2
   rw[List.take_take,List.take_append_of_le_length (Nat.le_refl _),List.take_length] at this
   rw[Nat.min_eq_left (by omega)] at this
   exact this
  refine⟨by rw[h1,List.length_cons];omega,hpre,fun j o' hj=>?_⟩
  cases j with
  | zero =>
   simp at hj;subst hj
   rw[Nat.add_zero,hpre]
   have:((qh (acc ++ [uo acc o]) l).take (acc.length+1))[acc.length]?=some (uo acc o):=by rw[h2];simp
   rw[List.getElem?_take] at this
   simpa using this
  | succ j =>
   simp at hj
   have:=h3 j o' hj
   rw[show acc.length+(j+1)=acc.length+(0+1)+j from by omega]
   exact this
def fl (ops:List Oper) (j i:Nat):Bool:=((qh [] ops).getD j 0).testBit i
def IJ {j i:Nat} {o:Oper} (ho:ops[j]?=some o) (hlt : ∀e∈o.after,Region.binds .any e=true→e.on<j) :
  fl ops j i=true ↔ ∃e∈o.after,Region.binds .any e=true∧(e.on=i∨fl ops e.on i=true):=by
 obtain⟨_,_,h3⟩:=AF ops []
 have hm:=h3 j o ho
 simp only[List.length_nil,Nat.zero_add] at hm
 unfold fl
 rw[List.getD_eq_getElem?_getD,hm,Option.getD_some]
 unfold uo
 rw[uT,List.any_eq_true]
 constructor
 ·rintro⟨e,he,hb⟩
  simp only[Bool.and_eq_true,Bool.or_eq_true,beq_iff_eq] at hb
  refine⟨e,by simpa using he,hb.1,?_⟩
  have:=hlt e (by simpa using he) hb.1
  rcases hb.2 with h|h
  ·exact .inl h
  ·right;rw[List.getD_eq_getElem?_getD,List.getElem?_take,if_pos this] at h;rw[List.getD_eq_getElem?_getD];exact h
 ·rintro⟨e,he,hb,h⟩
  have hl:=hlt e he hb
  refine⟨e,by simpa using he,?_⟩
  simp only[Bool.and_eq_true,Bool.or_eq_true,beq_iff_eq]
  refine⟨hb,?_⟩
  rcases h with h|h
  ·exact .inl h
  ·right;rw[List.getD_eq_getElem?_getD,List.getElem?_take,if_pos hl];rw[List.getD_eq_getElem?_getD] at h;exact h
variable {h:IH}{m:Mp}{w0 w:World}{B:Nat}
def Rel.ZH (R:Rel B w0 m h w) (o:bI) (hl:o.lone=true)
  (hm:m (2*h.n)=none ∨ ∃r,m (2*h.n)=some (r,0)∧fY m w r 0 (m.ez (2*h.n)) o ∧ ∀k s,k<h.n→m (2*k)≠some (r,s)):Rel B w0 m (h.new o) w:=by
 have cD : ∀k,(h.new o).ext.get k=if k=h.n then some o else h.ext.get k:=fun k=>Tr.bL _ _ _ _
 have hdn:=R.dom h.n (Nat.le_refl _)
 have hn:(h.new o).n=h.n+1:=rfl
 have hlt : ∀{k x},h.ext.get k=some x→k<h.n:=by
  intro k x hk
  rcases Nat.lt_or_ge k h.n with e|e
  ·exact e
  ·rw[R.dom k e] at hk;cases hk
 refine⟨R.below,R.size,R.base,R.odd,R.even,?_,?_,?_,?_,?_,?_,R.whole⟩
 ·intro k hk;rw[cD,if_neg (by omega)];exact R.dom k (by omega)
 ·intro k x r s hk hr
  rw[cD] at hk
  by_cases e:k=h.n
  ·subst e;rw[if_pos rfl] at hk;cases hk
   rcases hm with e|⟨r',h1,h2,_⟩
   ·rw[e] at hr;cases hr
   ·rw[h1] at hr;cases hr;exact h2
  ·rw[if_neg e] at hk;exact R.obj k x r s hk hr
 ·intro k k' x x' r s s' hne hk hk' ha ha' hr hr'
  rw[cD] at hk hk'
  by_cases e:k=h.n
  ·subst e
   rw[if_neg (fun e=>hne e.symm)] at hk'
   rcases hm with e|⟨r',h1,_,h3⟩
   ·rw[e] at hr;cases hr
   ·rw[h1] at hr;cases hr
    exact absurd hr' (h3 k' s' (hlt hk'))
  ·by_cases e':k'=h.n
   ·subst e'
    rw[if_neg e] at hk
    rcases hm with e|⟨r',h1,_,h3⟩
    ·rw[e] at hr';cases hr'
    ·rw[h1] at hr';cases hr'
     exact absurd hr (h3 k s (hlt hk))
   ·rw[if_neg e] at hk;rw[if_neg e'] at hk'
    exact(R.own k k' x x' r s s' hne hk hk' ha ha' hr hr').imp (ML hdn) id
 ·intro f st hf
  obtain⟨a,b,c⟩:=R.du f st hf
  exact⟨Nat.lt_succ_of_lt a,fun x hx=>Nat.lt_succ_of_lt (b x hx),c⟩
 ·intro k cs t f hk
  rw[cD] at hk
  by_cases e:k=h.n
  ·rw[if_pos e] at hk;cases hk;simp[bI.lone] at hl
  ·rw[if_neg e] at hk;exact R.fam k cs t f hk
 ·intro f st hf
  have hltf:=(R.du f st hf).2.1
  refine(R.long f st hf).imp_of_mem fun {x y} hx hy hxy=>?_
  intro cs t g cs' t' g' r s s' h1 h2 h3 h4
  rw[cD,if_neg (by have:=hltf x hx;omega)] at h1;rw[cD,if_neg (by have:=hltf y hy;omega)] at h2
  exact hxy cs t g cs' t' g' r s s' h1 h2 h3 h4
def Rel.Za0 (R:Rel B w0 m h w) (k:Nat) (O:Obj) (z:Nat×Nat) (hm:m (2*k)=none)
  (oP : ∀o,h.ext.get k=some o→o.lone=true∧fY m (w.alloc O) w.heap.size 0 z o) (hst : ∀f st,h.bP.get f=some st→k∉st):Rel B w0 (m.upd (2*k) (w.heap.size,0) z) h (w.alloc O):=by
 have hle:m.le (m.upd (2*k) (w.heap.size,0) z):=Mp.AM hm
 have hold : ∀r,r<w.heap.size→(w.alloc O).heap[r]?=w.heap[r]?:=fun r hr=>by rw[heap_alloc,if_neg (by omega)]
 refine⟨nQ R.below R.size O,by rw[size_alloc];have:=R.size;omega,?_,?_,?_,R.dom,?_,?_,R.du,R.fam,?_,?_⟩
 ·intro b cs hb
  obtain⟨r0,s0,hm0,hb1,c,el,fz,hc,hr⟩:=R.base b cs hb
  refine⟨r0,s0,by rw[Mp.bY _ _ _ (by omega)];exact hm0,hb1,c,el,fz,?_,hr.1,fun i v hv=>let ⟨v',x,y⟩:=hr.2 i v hv;⟨v',x,y.mono hle⟩⟩
  rw[hold r0 (by have:=R.size;omega),hc]
 ·intro b hb;rw[Mp.bY _ _ _ (by omega)];exact R.odd b hb
 ·intro j r s hj
  rw[size_alloc]
  by_cases e:j=k
  ·subst e;rw[Mp.bj] at hj;cases hj;exact⟨R.size,by omega⟩
  ·rw[Mp.bY _ _ _ (by omega)] at hj
   have:=R.even j r s hj;omega
 ·intro j x r s hx hj
  by_cases e:j=k
  ·subst e
   rw[Mp.bj] at hj;cases hj
   exact(oP x hx).2.mono hle rfl (Mp.lZ _ _ _ _)
  ·rw[Mp.bY _ _ _ (by omega)] at hj
   exact(R.obj j x r s hx hj).mono hle (hold r (R.even j r s hj).2) (Mp.Sx _ _ _ (by omega))
 ·intro j j' x x' r s s' hne hx hx' ha ha' hj hj'
  by_cases e:j=k
  ·subst e
   rw[Mp.bj] at hj;cases hj
   rw[Mp.bY _ _ _ (by omega)] at hj'
   have:=R.even _ _ _ hj';omega
  ·by_cases e':j'=k
   ·subst e'
    rw[Mp.bj] at hj';cases hj'
    rw[Mp.bY _ _ _ (by omega)] at hj
    have:=R.even _ _ _ hj;omega
   ·rw[Mp.bY _ _ _ (by omega)] at hj hj'
    exact R.own j j' x x' r s s' hne hx hx' ha ha' hj hj'
 ·intro f st hf
  refine(R.long f st hf).imp_of_mem fun {x y} hx hy hxy=>?_
  have hx':x≠k:=fun e=>hst f st hf (e▸hx)
  have hy':y≠k:=fun e=>hst f st hf (e▸hy)
  intro cs t g cs' t' g' r s s' h1 h2 h3 h4
  rw[Mp.bY _ _ _ (by omega)] at h3 h4
  exact hxy cs t g cs' t' g' r s s' h1 h2 h3 h4
 ·intro f st x y hf hx hy
  have hx':x≠k:=fun e=>hst f st hf (e▸hx)
  have hy':y≠k:=fun e=>hst f st hf (e▸hy)
  rw[Mp.bY _ _ _ (by omega),Mp.bY _ _ _ (by omega)]
  exact R.whole f st x y hf hx hy
variable {o:Op}{h:IH}{fr:Fr}
def B0 {P:Program} {h':IH} {v:Value} (hk:cL o=.alloc) (hi:iop P fr o h=some (v,h')) : ∃obj,h'=h.new obj∧obj.lone=true:=by
 cases o<;>simp only[cL,reduceCtorEq] at hk<;>simp only[iop] at hi
 case alloc t=>obtain⟨z,_,e⟩:=Option.map_eq_some_iff.1 hi;cases e;exact⟨_,rfl,rfl⟩
 case box t x=>obtain⟨z,_,e⟩:=Option.map_eq_some_iff.1 hi;cases e;exact⟨_,rfl,rfl⟩
 case buildSlice t len parts =>
  split at hi
  ·unfold Id.buildSlice at hi;simp only[cond_eq_ite] at hi;repeat' (split at hi)
   all_goals first|(cases hi;done)|(cases hi;exact⟨_,rfl,rfl⟩)
  ·cases hi
 case makeMap t r =>
  repeat' (split at hi)
  all_goals first|(cases hi;done)|(cases hi;exact⟨_,rfl,rfl⟩)
 case makeSlice t l c =>
  split at hi
  ·unfold Id.makeSlice at hi;simp only[cond_eq_ite] at hi;repeat' (split at hi)
   all_goals first|(cases hi;done)|(cases hi;exact⟨_,rfl,rfl⟩)
  ·cases hi
 case call c=>cases hc:c.callee with
  | builtin b=>cases b<;>simp_all
  | value f=>simp_all
  | invoke r n=>simp_all
theorem fc {E:Env} {call:bU} (hk:cL o≠.chain):dh E call fr o h=iop E.P fr o h:=by
 unfold dh
 split
 ·rename_i c
  split
  ·rename_i f hc;simp[cL,hc] at hk
  ·rfl
 ·rfl
structure Text (E:Env) (call:bU) (nt:Nat) (ops:Array Oper) (FA:Nat→Fr) (HA:Nat→IH):Prop where
 mono:dE call
 step : ∀i o,ops[i]?=some o→de E call nt ops.toList o (FA i) (HA i)=some (FA (i+1),HA (i+1))
def eE (ops:Array Oper) (FA:Nat→Fr) (i:Nat):Prop:=∃o,ops[i]?=some o∧cL o.op=.alloc∧bE ops.toList o (FA i)=some true
def cY (ops:Array Oper) (i:Nat):Prop:=∃o,ops[i]?=some o∧cL o.op=.chain
section
variable {E:Env} {call:bU} {nt:Nat} {ops:Array Oper} {FA:Nat→Fr} {HA:Nat→IH}
def Text.nle (T:Text E call nt ops FA HA) : ∀(j i:Nat),i≤j→j≤ops.size→(HA i).n≤(HA j).n
 | 0,i,h1,_=>by
  have e:i=0:=by omega
  rw[e]
  exact Nat.le_refl _
 | j+1,i,h1,h2=>by
  by_cases e:i=j+1
  ·subst e;exact Nat.le_refl _
  ·have ho:ops[j]?=some ops[j]:=Array.getElem?_eq_getElem (by omega)
   exact Nat.le_trans (T.nle j i (by omega) (by omega)) (zU T.mono (T.step j _ ho))
variable {i:Nat}
def Text.alloc (T:Text E call nt ops FA HA) (h:eE ops FA i) : ∃obj,HA (i+1)=(HA i).new obj∧obj.lone=true:=by
 obtain⟨o,ho,hk,hw⟩:=h
 have hs:=T.step i o ho
 unfold de at hs
 rw[hw] at hs
 simp only at hs
 split at hs
 ·rename_i v h2 bD
  obtain⟨a,_,e⟩:=Option.map_eq_some_iff.1 hs
  rw[fc (by rw[hk];simp)] at bD
  obtain⟨obj,h3,h4⟩:=B0 hk bD
  have e2:h2=HA (i+1):=(Prod.mk.inj e).2
  exact⟨obj,by rw[←e2,h3],h4⟩
 ·cases hs
theorem Text.same (T:Text E call nt ops FA HA) {o:Oper} (ho:ops[i]?=some o) (hc : ¬cY ops i) (ha : ¬eE ops FA i):HA (i+1)=HA i:=by
 have hs:=T.step i o ho
 unfold de at hs
 split at hs
 ·rename_i hw
  split at hs
  ·rename_i v h2 bD
   obtain⟨a,_,e⟩:=Option.map_eq_some_iff.1 hs
   have e2:h2=HA (i+1):=(Prod.mk.inj e).2
   have hk:cL o.op≠.chain:=fun e=>hc ⟨o,ho,e⟩
   rw[fc hk] at bD
   rw[←e2]
   cases hkk:cL o.op with
   | pure=>exact(AR hkk bD).1
   | load=>exact AS hkk bD
   | alloc=>exact absurd ⟨o,ho,hkk,hw⟩ ha
   | chain=>exact absurd hkk hk
  ·cases hs
 ·obtain⟨a,_,e⟩:=Option.map_eq_some_iff.1 hs
  exact(Prod.mk.inj e).2.symm
 ·cases hs
def lu (h:cY ops i) : ¬eE ops FA i:=by
 rintro⟨o,ho,hk,_⟩
 obtain⟨o',ho',hk'⟩:=h
 rw[ho] at ho';cases ho';rw[hk] at hk';cases hk'
end
structure nj (ops:Array Oper) (FA:Nat→Fr) (HA:Nat→IH) (B:Nat) (w0:World) (m0:Mp) (wi:World) (D:Nat→Prop) (a:Nat) (m:Mp) (w:World):Prop where
 rel:Rel B w0 m (HA a) w
 none_ : ∀i,i<ops.size→eE ops FA i → ¬D i→m (2*(HA i).n)=none
 JH : ∀i,i<a→i<ops.size→eE ops FA i → ¬D i→(∃obj,HA (i+1)=(HA i).new obj∧(HA a).ext.get (HA i).n=some obj) ∧ ∀f st,(HA a).bP.get f=some st→(HA i).n∉st
 extra : ∀i,a≤i→i<ops.size→eE ops FA i→D i → ∃obj r,HA (i+1)=(HA i).new obj∧m (2*(HA i).n)=some (r,0)∧fY m w r 0 (m.ez (2*(HA i).n)) obj
 inj : ∀k k' r s s',(HA a).n≤k→k<(HA ops.size).n→k'<(HA ops.size).n→k≠k'→m (2*k)=some (r,s)→m (2*k')≠some (r,s')
 fresh : ∀k,(HA a).n≤k→k<(HA ops.size).n→m (2*k)=none ∨ ∃i,a≤i∧i<ops.size∧eE ops FA i∧D i∧k=(HA i).n
 le:m0.le m
 new : ∀b,m b≠m0 b → ∃k,b=2*k∧(HA 0).n≤k∧k<(HA ops.size).n
 base:(HA a).base=(HA 0).base
 frame : ∀r,r<wi.heap.size→(∀k s,k<(HA 0).n→m0 (2*k)≠some (r,s))→w.heap[r]?=wi.heap[r]?
 idle : ∀k,k<(HA 0).n→m0 (2*k)=none→(HA a).ext.get k=(HA 0).ext.get k
 size:wi.heap.size≤w.heap.size
 img : ∀k r s,(HA 0).n≤k→k<(HA ops.size).n→m (2*k)=some (r,s)→wi.heap.size≤r ∨ ∃k0 s0,k0<(HA 0).n∧m0 (2*k0)=some (r,s0)
 nJ : ∀k,k<(HA 0).n→m0 (2*k)=none→(∀f st,(HA 0).bP.get f=some st→k∉st) → ∀f st,(HA a).bP.get f=some st→k∉st
section
variable {E:Env} {call:bU} {nt:Nat} {ops:Array Oper} {FA:Nat→Fr} {HA:Nat→IH} {B:Nat} {w0:World} {m0:Mp} {wi:World} {D:Nat→Prop} {a:Nat} {m:Mp} {w:World}
def nj.old (I:nj ops FA HA B w0 m0 wi D a m w) {k:Nat} (hk:k<(HA 0).n):m (2*k)=m0 (2*k):=by
 apply Classical.byContradiction;intro hne
 obtain⟨k',e,h1,_⟩:=I.new _ hne
 omega
theorem nj.go (T:Text E call nt ops FA HA) (I:nj ops FA HA B w0 m0 wi D a m w) {c:Nat} (hac:a≤c) (hc:c≤ops.size) (hno : ∀i,a≤i→i<c → ¬eE ops FA i) {m':Mp} {w':World} (R:Rel B w0 m' (HA c) w') (S:Step m (HA a) w m' (HA c) w') :
  nj ops FA HA B w0 m0 wi D c m' w':=by
 have nac:(HA a).n≤(HA c).n:=S.n
 have n0a:(HA 0).n≤(HA a).n:=T.nle a 0 (Nat.zero_le _) (Nat.le_trans hac hc)
 have ncN:(HA c).n≤(HA ops.size).n:=T.nle _ _ hc (Nat.le_refl _)
 have eo : ∀k,(k<(HA a).n∨(HA c).n≤k)→m' (2*k)=m (2*k):=by
  intro k hk
  apply Classical.byContradiction;intro hne
  obtain⟨k',e,h1,h2⟩:=S.new _ hne
  omega
 have low : ∀i,i<ops.size→eE ops FA i→(HA i).n<(HA a).n∨(HA c).n≤(HA i).n:=by
  intro i hi ha
  by_cases h1:i<a
  ·obtain⟨obj,e,_⟩:=T.alloc ha
   have h2:(HA (i+1)).n≤(HA a).n:=T.nle a (i+1) h1 (by omega)
   rw[e] at h2
   have:((HA i).new obj).n=(HA i).n+1:=rfl
   left;omega
  ·right
   by_cases h2:i<c
   ·exact absurd ha (hno i (by omega) h2)
   ·exact T.nle i c (by omega) (by omega)
 refine⟨R,?_,?_,?_,?_,?_,Mp.le_trans I.le S.le,?_,S.base.trans I.base,?_,?_,Nat.le_trans I.size S.size,?_,?_⟩
 ·intro i hi ha hd;rw[eo _ (low i hi ha)];exact I.none_ i hi ha hd
 ·intro i hic hi ha hd
  have hia:i<a:=by
   rcases Nat.lt_or_ge i a with h|h
   ·exact h
   ·exact absurd ha (hno i h hic)
  obtain⟨⟨obj,e,hg⟩,hst⟩:=I.JH i hia hi ha hd
  have hlt:(HA i).n<(HA a).n:=by
   have h2:(HA (i+1)).n≤(HA a).n:=T.nle a (i+1) hia (by omega)
   rw[e] at h2
   have:((HA i).new obj).n=(HA i).n+1:=rfl
   omega
  have hm:=I.none_ i hi ha hd
  exact⟨⟨obj,e,by rw[S.idle _ hlt hm];exact hg⟩,S.nJ _ hlt hm hst⟩
 ·intro i hic hi ha hd
  obtain⟨obj,r,e,hm,ho⟩:=I.extra i (by omega) hi ha hd
  obtain⟨h1,h2⟩:=S.le _ _ hm
  refine⟨obj,r,e,h1,ho.mono S.le ?_ h2⟩
  refine S.frame r (I.rel.even _ _ _ hm).2 ?_
  intro k s hk hmk
  have hge:(HA a).n≤(HA i).n:=T.nle i a (by omega) (by omega)
  have hlt:(HA i).n<(HA ops.size).n:=by
   have h2:(HA (i+1)).n≤(HA ops.size).n:=T.nle _ (i+1) hi (Nat.le_refl _)
   rw[e] at h2
   have:((HA i).new obj).n=(HA i).n+1:=rfl
   omega
  exact I.inj _ k r 0 s hge hlt (by omega) (by omega) hm hmk
 ·intro k k' r s s' hk hkN YQ hne hm hm'
  rw[eo k (.inr hk)] at hm
  by_cases h1:k'<(HA a).n∨(HA c).n≤k'
  ·rw[eo k' h1] at hm'
   exact I.inj k k' r s s' (by omega) hkN YQ hne hm hm'
  ·rcases S.img k' r s' (by omega) (by omega) hm' with e|⟨k0,s0,e1,e2⟩
   ·have:=(I.rel.even k r s hm).2;omega
   ·exact I.inj k k0 r s s0 (by omega) hkN (by omega) (by omega) hm e2
 ·intro k hk hkN
  rw[eo k (.inr hk)]
  rcases I.fresh k (by omega) hkN with e|⟨i,h1,h2,h3,h4,h5⟩
  ·exact .inl e
  ·refine .inr ⟨i,?_,h2,h3,h4,h5⟩
   rcases Nat.lt_or_ge i c with h|h
   ·exact absurd h3 (hno i h1 h)
   ·exact h
 ·intro b hb
  by_cases h1:m' b=m b
  ·rw[h1] at hb;exact I.new b hb
  ·obtain⟨k,e,h2,h3⟩:=S.new b h1
   exact⟨k,e,by omega,by omega⟩
 ·intro r hr hk
  rw[S.frame r (Nat.lt_of_lt_of_le hr I.size) ?_,I.frame r hr hk]
  intro k s hka hmk
  by_cases h1:k<(HA 0).n
  ·rw[I.old h1] at hmk;exact hk k s h1 hmk
  ·rcases I.img k r s (by omega) (by omega) hmk with e|⟨k0,s0,e1,e2⟩
   ·omega
   ·exact hk k0 s0 e1 e2
 ·intro k hk hm
  rw[S.idle k (by omega) (by rw[I.old hk,hm]),I.idle k hk hm]
 ·intro k r s hk hkN hm
  by_cases h1:k<(HA a).n∨(HA c).n≤k
  ·rw[eo k h1] at hm;exact I.img k r s hk hkN hm
  ·rcases S.img k r s (by omega) (by omega) hm with e|⟨k0,s0,e1,e2⟩
   ·exact .inl (Nat.le_trans I.size e)
   ·by_cases h2:k0<(HA 0).n
    ·rw[I.old h2] at e2;exact .inr ⟨k0,s0,h2,e2⟩
    ·exact I.img k0 r s0 (by omega) (by omega) e2
 ·intro k hk hm hst
  exact S.nJ k (by omega) (by rw[I.old hk,hm]) (I.nJ k hk hm hst)
def nj.next (T:Text E call nt ops FA HA) (I:nj ops FA HA B w0 m0 wi D a m w) (ha:a<ops.size) (hc : ¬cY ops a):nj ops FA HA B w0 m0 wi D (a+1) m w:=by
 have ho:ops[a]?=some ops[a]:=Array.getElem?_eq_getElem ha
 by_cases hal:eE ops FA a
 ·obtain⟨obj,e,hl⟩:=T.alloc hal
  have hn1:(HA (a+1)).n=(HA a).n+1:=by rw[e];rfl
  have hN:(HA (a+1)).n≤(HA ops.size).n:=T.nle _ _ ha (Nat.le_refl _)
  have n0a:(HA 0).n≤(HA a).n:=T.nle a 0 (Nat.zero_le _) (by omega)
  have cD : ∀k,(HA (a+1)).ext.get k=if k=(HA a).n then some obj else (HA a).ext.get k:=fun k=>by rw[e];exact Tr.bL _ _ _ _
  have Fj:(HA (a+1)).bP=(HA a).bP:=by rw[e];rfl
  have ZbH : ∀i,i<a→eE ops FA i→(HA i).n<(HA a).n:=by
   intro i hia h3
   obtain⟨wZ,e',_⟩:=T.alloc h3
   have h2:(HA (i+1)).n≤(HA a).n:=T.nle a (i+1) hia (by omega)
   rw[e'] at h2
   have:((HA i).new wZ).n=(HA i).n+1:=rfl
   omega
  have oR:m (2*(HA a).n)=none ∨ ∃r,m (2*(HA a).n)=some (r,0)∧fY m w r 0 (m.ez (2*(HA a).n)) obj ∧ ∀k s,k<(HA a).n→m (2*k)≠some (r,s):=by
   by_cases hd:D a
   ·obtain⟨wZ,r,e',hm,hO⟩:=I.extra a (Nat.le_refl _) ha hal hd
    have:wZ=obj:=by
     rw[e] at e'
     have h1:=cD (HA a).n
     rw[if_pos rfl,e] at h1
     have h2:((HA a).new wZ).ext.get (HA a).n=some wZ:=by show((HA a).ext.set (HA a).n wZ).get (HA a).n=_;rw[Tr.bL,if_pos rfl]
     rw[←e',h1] at h2;cases h2;rfl
    subst this
    exact .inr ⟨r,hm,hO,fun k s hk hmk=>I.inj (HA a).n k r 0 s (Nat.le_refl _) (by omega) (by omega) (by omega) hm hmk⟩
   ·exact .inl (I.none_ a ha hal hd)
  refine⟨by rw[e];exact I.rel.ZH obj hl oR,I.none_,?_,?_,?_,?_,I.le,I.new,by rw[e];exact I.base,I.frame,?_,I.size,I.img,?_⟩
  ·intro i hi1 hi h3 hd
   by_cases hia:i=a
   ·subst hia
    exact⟨⟨obj,e,by rw[cD,if_pos rfl]⟩,fun f st hf=>by rw[Fj] at hf;have:=(I.rel.du f st hf).2.1;intro hx;have:=this _ hx;omega⟩
   ·obtain⟨⟨wZ,e',hg⟩,hst⟩:=I.JH i (by omega) hi h3 hd
    have hlt:=ZbH i (by omega) h3
    exact⟨⟨wZ,e',by rw[cD,if_neg (by omega)];exact hg⟩,by rw[Fj];exact hst⟩
  ·intro i hi1 hi h3 hd;exact I.extra i (by omega) hi h3 hd
  ·intro k k' r s s' hk;exact I.inj k k' r s s' (by omega)
  ·intro k hk hkN
   rcases I.fresh k (by omega) hkN with h|⟨i,h1,h2,h3,h4,h5⟩
   ·exact .inl h
   ·refine .inr ⟨i,?_,h2,h3,h4,h5⟩
    rcases Nat.lt_or_ge a i with h|h
    ·exact h
    ·obtain rfl:i=a:=by omega
     omega
  ·intro k hk hm;rw[cD,if_neg (by omega)];exact I.idle k hk hm
  ·intro k hk hm hst;rw[Fj];exact I.nJ k hk hm hst
 ·have e:=T.same ho hc hal
  refine⟨by rw[e];exact I.rel,I.none_,?_,?_,?_,?_,I.le,I.new,by rw[e];exact I.base,I.frame,by rw[e];exact I.idle,I.size,I.img,by rw[e];exact I.nJ⟩
  ·intro i hi1 hi h3 hd
   have:i≠a:=fun h=>hal (h▸h3)
   rw[e];exact I.JH i (by omega) hi h3 hd
  ·intro i hi1 hi h3 hd;exact I.extra i (by omega) hi h3 hd
  ·rw[e];exact I.inj
  ·rw[e];intro k hk hkN
   rcases I.fresh k hk hkN with h|⟨i,h1,h2,h3,h4,h5⟩
   ·exact .inl h
   ·refine .inr ⟨i,?_,h2,h3,h4,h5⟩
    have:i≠a:=fun h=>hal (h▸h3)
    omega
def nj.make (T:Text E call nt ops FA HA) (I:nj ops FA HA B w0 m0 wi D a m w) (hae:a≤ops.size) {i:Nat} (hi:i<ops.size) (hal:eE ops FA i) (hd : ¬D i) {obj:bI} (e:HA (i+1)=(HA i).new obj) (hl:obj.lone=true) {O:Obj} {z:Nat×Nat}
  (hO:fY m (w.alloc O) w.heap.size 0 z obj):nj ops FA HA B w0 m0 wi (fun j=>D j∨j=i) a (m.upd (2*(HA i).n) (w.heap.size,0) z) (w.alloc O):=by
 have hm:=I.none_ i hi hal hd
 have hle:m.le (m.upd (2*(HA i).n) (w.heap.size,0) z):=Mp.AM hm
 have hne : ∀k,k≠(HA i).n→(m.upd (2*(HA i).n) (w.heap.size,0) z) (2*k)=m (2*k):=fun k hk=>Mp.bY _ _ _ (by omega)
 have eo : ∀r,r<w.heap.size→(w.alloc O).heap[r]?=w.heap[r]?:=fun r hr=>by rw[heap_alloc,if_neg (by omega)]
 have hidN:(HA i).n<(HA ops.size).n:=by
  have h2:(HA (i+1)).n≤(HA ops.size).n:=T.nle _ (i+1) hi (Nat.le_refl _)
  rw[e] at h2
  have:((HA i).new obj).n=(HA i).n+1:=rfl
  omega
 have h0i:(HA 0).n≤(HA i).n:=T.nle i 0 (Nat.zero_le _) (by omega)
 have hids : ∀j,j<ops.size→eE ops FA j→j≠i→(HA j).n≠(HA i).n:=by
  intro j hj h3 hji
  rcases Nat.lt_or_gt_of_ne hji with h|h
  ·obtain⟨wZ,e',_⟩:=T.alloc h3
   have h2:(HA (j+1)).n≤(HA i).n:=T.nle i (j+1) h (by omega)
   rw[e'] at h2
   have:((HA j).new wZ).n=(HA j).n+1:=rfl
   omega
  ·have h2:(HA (i+1)).n≤(HA j).n:=T.nle j (i+1) h (by omega)
   rw[e] at h2
   have:((HA i).new obj).n=(HA i).n+1:=rfl
   omega
 refine⟨?_,?_,?_,?_,?_,?_,Mp.le_trans I.le hle,?_,I.base,?_,I.idle,by rw[size_alloc];have:=I.size;omega,?_,I.nJ⟩
 ·refine I.rel.Za0 (HA i).n O z hm ?_ ?_
  ·intro o hg
   by_cases hia:i<a
   ·obtain⟨⟨wZ,e',hg'⟩,_⟩:=I.JH i hia hi hal hd
    rw[hg'] at hg;cases hg
    have:o=obj:=by
     rw[e] at e'
     have h1:((HA i).new obj).ext.get (HA i).n=some obj:=by show((HA i).ext.set (HA i).n obj).get (HA i).n=_;rw[Tr.bL,if_pos rfl]
     have h2:((HA i).new o).ext.get (HA i).n=some o:=by show((HA i).ext.set (HA i).n o).get (HA i).n=_;rw[Tr.bL,if_pos rfl]
     rw[←e',h1] at h2;cases h2;rfl
    subst this
    exact⟨hl,hO⟩
   ·have:(HA a).n≤(HA i).n:=T.nle i a (by omega) (by omega)
    rw[I.rel.dom _ this] at hg;cases hg
  ·intro f st hf
   by_cases hia:i<a
   ·exact(I.JH i hia hi hal hd).2 f st hf
   ·have:(HA a).n≤(HA i).n:=T.nle i a (by omega) (by omega)
    intro hx;have:=(I.rel.du f st hf).2.1 _ hx;omega
 ·intro j hj h3 hdj
  have hji:j≠i:=fun e=>hdj (.inr e)
  rw[hne _ (hids j hj h3 hji)]
  exact I.none_ j hj h3 (fun h=>hdj (.inl h))
 ·intro j hja hj h3 hdj
  exact I.JH j hja hj h3 (fun h=>hdj (.inl h))
 ·intro j hja hj h3 hdj
  by_cases hji:j=i
  ·subst hji
   exact⟨obj,w.heap.size,e,Mp.bj _ _ _ _,hO.mono hle rfl (Mp.lZ _ _ _ _)⟩
  ·obtain⟨wZ,r,e',hmr,hO'⟩:=I.extra j hja hj h3 (hdj.resolve_right hji)
   obtain⟨h1,h2⟩:=hle _ _ hmr
   exact⟨wZ,r,e',h1,hO'.mono hle (eo r (I.rel.even _ _ _ hmr).2) h2⟩
 ·intro k k' r s s' hk hkN YQ hkk h1 h2
  by_cases c1:k=(HA i).n
  ·subst c1
   rw[Mp.bj] at h1;cases h1
   rw[hne _ (fun e=>hkk e.symm)] at h2
   have:=(I.rel.even _ _ _ h2).2;omega
  ·rw[hne _ c1] at h1
   by_cases c2:k'=(HA i).n
   ·subst c2
    rw[Mp.bj] at h2;cases h2
    have:=(I.rel.even _ _ _ h1).2;omega
   ·rw[hne _ c2] at h2
    exact I.inj k k' r s s' hk hkN YQ hkk h1 h2
 ·intro k hk hkN
  by_cases c1:k=(HA i).n
  ·subst c1
   have hia:a≤i:=by
    rcases Nat.lt_or_ge i a with h|h
    ·have h2:(HA (i+1)).n≤(HA a).n:=T.nle a (i+1) h hae
     rw[e] at h2
     have:((HA i).new obj).n=(HA i).n+1:=rfl
     omega
    ·exact h
   exact .inr ⟨i,hia,hi,hal,.inr rfl,rfl⟩
  ·rw[hne _ c1]
   rcases I.fresh k hk hkN with h|⟨j,h1,h2,h3,h4,h5⟩
   ·exact .inl h
   ·exact .inr ⟨j,h1,h2,h3,.inl h4,h5⟩
 ·intro b hb
  by_cases h1:b=2*(HA i).n
  ·exact⟨_,h1,h0i,hidN⟩
  ·rw[Mp.bY _ _ _ h1] at hb;exact I.new b hb
 ·intro r hr hk
  rw[eo r (Nat.lt_of_lt_of_le hr I.size)];exact I.frame r hr hk
 ·intro k r s hk hkN h1
  by_cases c1:k=(HA i).n
  ·subst c1
   rw[Mp.bj] at h1;cases h1
   exact .inl I.size
  ·rw[hne _ c1] at h1;exact I.img k r s hk hkN h1
end
end Go.Id
