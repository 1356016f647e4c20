/-
  The ideal machine written for the kernel, third part: regions, code, calls. Fractions by value, for the kernel: what the functions of package share give, reckoned with the kernel's numbers.
-/
import Derived.Test.YtnanhedgenokpaaGreatTemperDetailedBh
set_option linter.unusedVariables false
set_option linter.unusedSimpArgs false
set_option linter.defProp false
set_option linter.deprecated false
namespace Go.Id
open Go
noncomputable section
def wantF (ops:List Oper) (g:Nat×Bool) (fr:Fr):Option Bool:=bO ((ops[g.1]?).bind (·.dst)) fun d=>bO (fgetF fr d) fun v=>match v with
 | .bool b=>some (b == g.2)
 | .tuple _=>some false
 | _=>none
theorem wantF_eq (ops:List Oper) (o:Oper) (j:Nat) (w:Bool) (fr:Fr) (hg:o.guard=some (j,w)):wantF ops (j,w) fr=wantedI ops o fr:=by
 unfold wantF wantedI
 rw[hg]
 simp only[fgetF_eq]
 cases(ops[j]?).bind (·.dst) with
 | none=>rfl
 | some d =>
  simp only[bO_some]
  cases fget fr d with
  | none=>rfl
  | some v=>cases v<;>rfl
def stepG (E:Env) (call:CallV) (nt:Nat) (o:Oper) (fr:Fr) (h:IH):Option (Fr×IH):=bO (runF o.op E call fr h) (Prod.rec fun v h=>bO (putF nt fr o.dst v) fun fr=>some (fr,h))
def stepF (E:Env) (call:CallV) (nt:Nat) (ops:List Oper) (o:Oper) (fr:Fr) (h:IH):Option (Fr×IH) :=
 Option.rec (motive:=fun _=>Option (Fr×IH)) (stepG E call nt o fr h) (fun g=>bO (wantF ops g fr) fun w=>iB w (stepG E call nt o fr h) (bO (putF nt fr o.dst undef) fun fr=>some (fr,h))) o.guard
theorem stepG_eq (E:Env) (call:CallV) (nt:Nat) (o:Oper) (fr:Fr) (h:IH):stepG E call nt o fr h=match runOp E call fr o.op h with
  | some (v,h)=>(fput nt fr o.dst v).map (·,h)
  | none=>none:=by
 unfold stepG
 rw[runF_eq]
 cases runOp E call fr o.op h with
 | none=>rfl
 | some p =>
  obtain⟨v,h⟩:=p
  simp only[bO_some,putF_eq]
  cases fput nt fr o.dst v<;>rfl
theorem stepF_eq (E:Env) (call:CallV) (nt:Nat) (ops:List Oper) (o:Oper) (fr:Fr) (h:IH):stepF E call nt ops o fr h=stepOp E call nt ops o fr h:=by
 unfold stepF stepOp
 cases hg:o.guard with
 | none =>
  rw[show wantedI ops o fr=some true from by unfold wantedI;rw[hg]]
  exact stepG_eq E call nt o fr h
 | some g =>
  obtain⟨j,w⟩:=g
  simp only
  rw[wantF_eq ops o j w fr hg]
  cases wantedI ops o fr with
  | none=>rfl
  | some b =>
   cases b with
   | true=>exact stepG_eq E call nt o fr h
   | false =>
    simp only[bO_some,iB_false,putF_eq]
    cases fput nt fr o.dst undef<;>rfl
def runOpsF (E:Env) (call:CallV) (nt:Nat) (ops l:List Oper) (fr:Fr) (h:IH):Option (Fr×IH):=List.rec (motive:=fun _=>Fr→IH→Option (Fr×IH)) (fun fr h=>some (fr,h)) (fun o _ ih fr h=>bO (stepF E call nt ops o fr h) (Prod.rec ih)) l fr h
theorem runOpsF_eq (E:Env) (call:CallV) (nt:Nat) (ops:List Oper) : ∀(l:List Oper) (fr:Fr) (h:IH),runOpsF E call nt ops l fr h=runOps E call nt ops l fr h
 | [],_,_=>rfl
 | o :: l,fr,h=>by
  show bO (stepF E call nt ops o fr h) (Prod.rec (runOpsF E call nt ops l))=_
  rw[stepF_eq,runOps]
  cases stepOp E call nt ops o fr h with
  | none=>rfl
  | some p=>exact runOpsF_eq E call nt ops l p.1 p.2
def traceF (E:Env) (call:CallV) (nt:Nat) (ops l:List Oper) (fr:Fr) (h:IH):Option (List (Fr×IH)):=List.rec (motive:=fun _=>Fr→IH→Option (List (Fr×IH))) (fun fr h=>some [(fr,h)]) (fun o _ ih fr h=>bO (stepF E call nt ops o fr h) (Prod.rec fun fr' h'=>bO (ih fr' h') fun l=>some ((fr,h) :: l))) l fr h
theorem traceF_eq (E:Env) (call:CallV) (nt:Nat) (ops:List Oper) : ∀(l:List Oper) (fr:Fr) (h:IH),traceF E call nt ops l fr h=trace E call nt ops l fr h
 | [],_,_=>rfl
 | o :: l,fr,h=>by
  show bO (stepF E call nt ops o fr h) (Prod.rec fun fr' h'=>bO (traceF E call nt ops l fr' h') fun l=>some ((fr,h) :: l))=_
  rw[stepF_eq,trace]
  cases stepOp E call nt ops o fr h with
  | none=>rfl
  | some p =>
   obtain⟨fr',h'⟩:=p
   simp only[bO_some,traceF_eq E call nt ops l]
   cases trace E call nt ops l fr' h'<;>rfl
def iopF (E:Env) (fr:Fr) (o:Op) (h:IH):Option (Value×IH):=runF o E (fun _ _ _=>none) fr h
theorem iopF_eq (E:Env) (fr:Fr) (o:Op) (h:IH):iopF E fr o h=iop E.P fr o h:=by
 unfold iopF
 rw[runF_eq]
 cases o<;>try rfl
 rename_i c
 simp only[runOp,iop]
 cases c.callee with
 | value f=>simp only;cases opd fr f<;>cases opds fr c.args.toList<;>rfl
 | _=>rfl
def steadyAtF (E:Env) (fr:Fr) (o:Op) (h h':IH):Bool :=
 match iopF E fr o h,iopF E fr o h' with
 | some (v,_),some (v',_)=>eqV v v'
 | _,_=>false
def wantI (ops:List Oper) (o:Oper) (fr:Fr):Option Bool:=Option.rec (motive:=fun _=>Option Bool) (some true) (fun g=>wantF ops g fr) o.guard
theorem wantI_eq (ops:List Oper) (o:Oper) (fr:Fr):wantI ops o fr=wantedI ops o fr:=by
 unfold wantI
 cases hg:o.guard with
 | none=>unfold wantedI;rw[hg]
 | some g=>exact wantF_eq ops o g.1 g.2 fr hg
def steadyF (E:Env) (ops:List Oper) (tr:List (Fr×IH)) (pl:List (Nat×List Nat)):Bool :=
 pl.all fun e=>match ops[e.1]?,tr[e.1]? with
  | some o,some (fr,h)=>match wantI ops o fr with
   | some true=>e.2.all fun p=>match tr[p]? with
    | some (_,h')=>steadyAtF E fr o.op h h'
    | none=>false
   | _=>true
  | _,_=>false
theorem steadyF_eq (E:Env) (ops:List Oper) (tr:List (Fr×IH)) (pl:List (Nat×List Nat)):steadyF E ops tr pl=steady E.P ops tr pl:=by
 have e:steadyAtF E=steadyAt E.P:=by
  funext fr o h h'
  unfold steadyAtF steadyAt
  rw[iopF_eq,iopF_eq];rfl
 have e2:wantI=wantedI:=by funext ops o fr;exact wantI_eq ops o fr
 unfold steadyF steady
 rw[e,e2];rfl
def planOf (ops:List Oper):Option (List (Nat×List Nat)):=bif orderOK ops then some (plan ops) else none
def drawnF (E:Env) (call:CallV) (nt:Nat) (ops:List Oper) (fr:Fr) (h:IH):Option (Fr×IH):=bO (planOf ops) (List.rec (motive:=fun _=>Option (Fr×IH)) (runOpsF E call nt ops ops fr h) (fun a l _=>bO (traceF E call nt ops ops fr h) fun tr=>iB (steadyF E ops tr (a :: l)) tr[ops.length]? none))
theorem trace_last (E:Env) (call:CallV) (nt:Nat) (ops:List Oper) : ∀(l:List Oper) (fr:Fr) (h:IH),(match trace E call nt ops l fr h with|none=>none|some tr=>tr[l.length]?)=runOps E call nt ops l fr h
 | [],_,_=>rfl
 | o :: l,fr,h=>by
  rw[trace,runOps]
  cases stepOp E call nt ops o fr h with
  | none=>rfl
  | some p =>
   obtain⟨fr',h'⟩:=p
   simp only
   rw[←trace_last E call nt ops l fr' h']
   cases trace E call nt ops l fr' h'<;>rfl
theorem drawnF_eq (E:Env) (call:CallV) (nt:Nat) (ops:List Oper) (fr:Fr) (h:IH):drawnF E call nt ops fr h=runDrawn E call nt ops fr h:=by
 unfold drawnF runDrawn planOf
 cases ho:orderOK ops with
 | false=>cases trace E call nt ops ops fr h<;>rfl
 | true =>
  simp only[cond_true,bO_some,Bool.true_and]
  cases hp:plan ops with
  | nil =>
   show runOpsF E call nt ops ops fr h=_
   rw[runOpsF_eq,←trace_last]
   cases trace E call nt ops ops fr h<;>rfl
  | cons a l =>
   show bO (traceF E call nt ops ops fr h) _=_
   simp only[traceF_eq,steadyF_eq,iB_eq]
   cases trace E call nt ops ops fr h<;>rfl
abbrev Sm:=Fr→IH→Out
def skipC:Sm:=fun fr h=>some (.normal,fr,h)
def exitC (i:Nat):Sm:=fun fr h=>some (.exit i,fr,h)
def retC:Sm:=fun fr h=>some (.ret,fr,h)
def noC:Sm:=fun _ _=>none
def afterC (k:Sm) (p:IExit×Fr×IH):Out:=Prod.rec (fun e q=>IExit.rec (motive:=fun _=>Out) (Prod.rec (fun fr h=>k fr h) q) (fun i=>some (.exit i,q)) (some (.ret,q)) e) p
def seqC (a b:Sm):Sm:=fun fr h=>bO (a fr h) (afterC b)
def condC (c:Operand) (a b:Sm):Sm:=fun fr h=>bO (opdF c fr) fun v=>match v with
 | .bool t=>iB t a b fr h
 | _=>none
def blockC (id:Nat) (b:Sm):Sm:=fun fr h=>bO (b fr h) (Prod.rec fun e q=>IExit.rec (motive:=fun _=>Out) (some (.normal,q)) (fun i=>iB (Nat.beq i id) (some (.normal,q)) (some (.exit i,q))) (some (.ret,q)) e)
def loopNF (b:Sm) (n:Nat):Sm:=Nat.rec (motive:=fun _=>Sm) noC (fun _ ih fr h=>bO (b fr h) (afterC ih)) n
theorem afterC_eq (k:Sm) (o:Out):bO o (afterC k)=match o with
  | some (.normal,fr,h)=>k fr h
  | some (.exit i,fr,h)=>some (.exit i,fr,h)
  | some (.ret,fr,h)=>some (.ret,fr,h)
  | none=>none:=by
 cases o with
 | none=>rfl
 | some p =>
  obtain⟨e,fr,h⟩:=p
  cases e<;>rfl
theorem loopNF_eq (b:Sm) : ∀n,loopNF b n=loopN b n
 | 0=>by funext fr h;rfl
 | n+1=>by
  funext fr h
  show bO (b fr h) (afterC (loopNF b n))=_
  rw[afterC_eq,loopNF_eq b n];rfl
def mapHead (b:Code):Bool:=match b with
 | .seq (.region _ ops draw) _=>(nextOf ops.toList draw).isSome
 | _=>false
def loopC (E:Env) (call:CallV) (fn:FuncId) (nt:Nat) (rd:Option Nat) (n:Nat) (b:Code) (ih:Sm):Sm:=iB (mapHead b) (evC E call fn nt rd n (.loop b)) (loopNF ih n)
def keepK {β:Type} (fr:Fr) (l:List Nat) (k:Fr→β):β:=List.rec (motive:=fun _=>(Fr→β)→β) (fun k=>k []) (fun t _ ih k=>Option.rec (motive:=fun _=>β) (ih k) (fun v=>ih fun r=>k ((t,v) :: r)) (fgetF fr t)) l k
theorem keepK_eq {β:Type} (fr:Fr) : ∀(l:List Nat) (k:Fr→β),keepK fr l k=k (keepOnly fr l)
 | [],_=>rfl
 | t :: l,k=>by
  show Option.rec (motive:=fun _=>β) (keepK fr l k) (fun v=>keepK fr l fun r=>k ((t,v) :: r)) (fgetF fr t)=_
  rw[fgetF_eq,keepOnly]
  cases fget fr t with
  | none=>exact keepK_eq fr l k
  | some v=>exact keepK_eq fr l _
def headK {β:Type} (E:Env) (fn:FuncId) (id:Nat) (fr:Fr) (k:Fr→β):β:=Option.rec (motive:=fun _=>β) (k fr) (fun l=>keepK fr l k) (E.lv fn id)
theorem headK_eq {β:Type} (E:Env) (fn:FuncId) (id:Nat) (fr:Fr) (k:Fr→β):headK E fn id fr k=k (headFr E fn id fr):=by
 unfold headK headFr
 cases E.lv fn id with
 | none=>rfl
 | some l=>exact keepK_eq fr l k
def regionC (E:Env) (call:CallV) (fn:FuncId) (nt:Nat) (id:Nat) (ops:Array Oper) (draw:Bool):Sm:=fun fr h=>headK E fn id fr fun fr=>bO (iB draw (drawnF E call nt ops.toList fr h) (runOpsF E call nt ops.toList ops.toList fr h)) fun q=>some (.normal,q)
def loopOfF (h:IH) (k:Nat):Option ILoop:=bO (trGet h.ext k) fun o=>match o with
 | .loop r=>some r
 | _=>none
theorem loopOfF_eq (h:IH) (k:Nat):loopOfF h k=loopOf h k:=by
 unfold loopOfF loopOf
 rw[trGet_eq]
 cases h.ext.get k with
 | none=>rfl
 | some o=>cases o<;>rfl
def roundF (h:IH) (rd:Option Nat):Bool:=Option.rec (motive:=fun _=>Bool) true (fun l=>(loopOfF h l).isSome) rd
theorem roundF_eq (h:IH) (rd:Option Nat):roundF h rd=roundOK h rd:=by
 cases rd with
 | none=>rfl
 | some l =>
  show(loopOfF h l).isSome=(loopOf h l).isSome
  rw[loopOfF_eq]
def rangeC (E:Env) (call:CallV) (fn:FuncId) (nt:Nat) (rd:Option Nat) (f:Operand) (params:Array Tmp) (assign body:Code):Sm:=fun fr h =>
 iB (roundF h rd) (bO (opdF f fr) fun fv=>newF h (.loop { state:=.ready,pending:=none,fn,nt,fr,params:=params.toList,assign,body }) fun k h0=>fN (Nat.mul 2 k) fun k2 =>
  bO (call fv [.func (.yield k2) #[] #[]] h0) (Prod.rec fun _ h1=>bO (loopOfF h1 k) fun r=>iB (r.state == .busy) none (bO (exitOf r.pending) fun e=>setF h1 k .dead fun h=>some (e,fr,h)))) none
theorem rangeC_eq (E:Env) (call:CallV) (fn:FuncId) (nt:Nat) (rd:Option Nat) (f:Operand) (params:Array Tmp) (assign body:Code) (fr:Fr) (h:IH):rangeC E call fn nt rd f params assign body fr h=rangeFn E call fn nt rd f params.toList assign body fr h:=by
 unfold rangeC rangeFn
 simp only[newF_eq,fN_eq,roundF_eq,loopOfF_eq,opdF_eq,setF_eq,iB_eq]
 cases roundOK h rd with
 | false=>rfl
 | true =>
  simp only[cond_true]
  cases opd fr f with
  | none=>rfl
  | some fv =>
   simp only[bO_some]
   show bO (call fv [.func (.yield (2*h.n)) #[] #[]] _) _=_
   cases call fv [.func (.yield (2*h.n)) #[] #[]] (h.new (.loop { state:=.ready,pending:=none,fn,nt,fr,params:=params.toList,assign,body })) with
   | none=>rfl
   | some p =>
    obtain⟨v,h1⟩:=p
    simp only[bO_some]
    cases loopOf h1 h.n with
    | none=>rfl
    | some r =>
     simp only[bO_some]
     cases r.state == .busy with
     | true=>rfl
     | false =>
      simp only[cond_false]
      cases exitOf r.pending<;>rfl
def evF (E:Env) (call:CallV) (fn:FuncId) (nt:Nat) (rd:Option Nat) (n:Nat) (c:Code):Sm:=Code.rec (motive:=fun _=>Sm) skipC (fun id ops draw=>regionC E call fn nt id ops draw) (fun _ _ a b=>seqC a b) (fun c _ _ a b=>condC c a b) (fun id _ b=>blockC id b) (fun b ih=>loopC E call fn nt rd n b ih)
 (fun f ps a b _ _=>rangeC E call fn nt rd f ps a b) exitC (fun _ b=>b) (fun _=>skipC) (fun _=>noC) retC (fun _=>noC) c
theorem evF_eq (E:Env) (call:CallV) (fn:FuncId) (nt:Nat) (rd:Option Nat) (n:Nat) : ∀(c:Code),evF E call fn nt rd n c=evC E call fn nt rd n c
 | .skip=>by funext fr h;rw[evC];rfl
 | .label _=>by funext fr h;rw[evC];rfl
 | .region id ops draw=>by
  funext fr h
  show headK E fn id fr (fun fr=>bO (iB draw (drawnF E call nt ops.toList fr h) (runOpsF E call nt ops.toList ops.toList fr h)) fun q=>some (IExit.normal,q))=_
  rw[evC,headK_eq,iB_eq,drawnF_eq,runOpsF_eq]
  cases(bif draw then runDrawn E call nt ops.toList (headFr E fn id fr) h else runOps E call nt ops.toList ops.toList (headFr E fn id fr) h)<;>rfl
 | .seq a b=>by
  funext fr h
  show bO (evF E call fn nt rd n a fr h) (afterC (evF E call fn nt rd n b))=_
  rw[evF_eq E call fn nt rd n a,evF_eq E call fn nt rd n b,afterC_eq,evC]
  cases evC E call fn nt rd n a fr h with
  | none=>rfl
  | some p=>rfl
 | .cond c a b=>by
  funext fr h
  show bO (opdF c fr) _=_
  simp only[evC,opdF_eq]
  show(bO (opd fr c) fun v=>match v with|.bool t=>iB t (evF E call fn nt rd n a) (evF E call fn nt rd n b) fr h|_=>none)=_
  rw[evF_eq E call fn nt rd n a,evF_eq E call fn nt rd n b]
  cases opd fr c with
  | none=>rfl
  | some v =>
   cases v with
   | bool t=>cases t<;>rfl
   | _=>rfl
 | .block id b=>by
  funext fr h
  show blockC id (evF E call fn nt rd n b) fr h=_
  rw[evF_eq E call fn nt rd n b,evC]
  unfold blockC
  cases evC E call fn nt rd n b fr h with
  | none=>rfl
  | some p =>
   obtain⟨e,fr,h⟩:=p
   cases e with
   | exit i =>
    show iB (Nat.beq i id) _ _=_
    rw[iB_eq]
    simp only[beqN]
   | _=>rfl
 | .loop b=>by
  funext fr h
  show loopC E call fn nt rd n b (evF E call fn nt rd n b) fr h=_
  rw[evF_eq E call fn nt rd n b]
  unfold loopC
  cases hm:mapHead b with
  | true=>rfl
  | false =>
   rw[iB_false,loopNF_eq]
   cases b with
   | seq a rest =>
    cases a with
    | region id ops draw =>
     rw[evC]
     have hn:nextOf ops.toList draw=none:=by
      cases ho:nextOf ops.toList draw with
      | none=>rfl
      | some x=>rw[mapHead,ho] at hm;cases hm
     rw[hn]
    | _=>rw[evC];intro _ _ _ _ h;cases h
   | _=>rw[evC];intro _ _ _ _ h;cases h
 | .scope b=>by
  show evF E call fn nt rd n b=_
  rw[evF_eq E call fn nt rd n b]
  funext fr h;rw[evC]
 | .rangeFunc f ps a b=>by
  funext fr h
  rw[evC];exact rangeC_eq E call fn nt rd f ps a b fr h
 | .exit i=>by funext fr h;rw[evC];rfl
 | .ret=>by funext fr h;rw[evC];rfl
 | .goto _=>by funext fr h;rw[evC];rfl
 | .refuse _=>by funext fr h;rw[evC];rfl
def resultF (P:Program) (fr:Fr) (h:IH) (r:ResultVar):Option Value:=match r with
 | .tmp t=>fgetF fr t
 | .cell a t=>bO (fgetF fr a) fun v=>loadF P h t v
def resultsF (P:Program) (fr:Fr) (h:IH) (l:List ResultVar):Option (List Value):=List.rec (motive:=fun _=>Option (List Value)) (some []) (fun r _ ih=>bO (resultF P fr h r) fun v=>bO ih fun vs=>some (v :: vs)) l
theorem resultsF_eq (P:Program) (fr:Fr) (h:IH) : ∀l,resultsF P fr h l=resultsOf P fr h l
 | []=>rfl
 | r :: l=>by
  show bO (resultF P fr h r) (fun v=>bO (resultsF P fr h l) fun vs=>some (v :: vs))=_
  rw[resultsF_eq P fr h l,resultsOf,show resultF P fr h r=resultOf P fr h r from ?_]
  ·cases resultOf P fr h r<;>cases resultsOf P fr h l<;>rfl
  ·cases r with
   | tmp t=>exact fgetF_eq fr t
   | cell a t =>
    show bO (fgetF fr a) _=_
    rw[fgetF_eq]
    simp only[resultOf,loadF_eq]
    cases fget fr a<;>rfl
def enterF (l:List Value):Fr:=List.rec (motive:=fun _=>Nat→Fr) (fun _ => []) (fun v _ ih i=>(i,v) :: ih (Nat.succ i)) l 0
theorem enterF_go : ∀(l:List Value) (i:Nat),List.rec (motive:=fun _=>Nat→Fr) (fun _ => []) (fun v _ ih i=>(i,v) :: ih (Nat.succ i)) l i=enterFr i l
 | [],_=>rfl
 | v :: l,i=>congrArg ((i,v) :: ·) (enterF_go l (i+1))
theorem enterF_eq (l:List Value):enterF l=enterFr 0 l:=enterF_go l 0
def bodyF (E:Env) (call:CallV) (n:Nat) (f:FuncId) (fn:Func) (args:List Value) (h:IH) (c:Code):Option (Value×IH) :=
 iB (Nat.ble (lenL args) fn.ntmps) (bO (evF E call f fn.ntmps none n c (enterF args) h) (Prod.rec fun e q=>IExit.rec (motive:=fun _=>Option (Value×IH))
  (Prod.rec (fun fr h=>bO (resultsF E.P fr h fn.results.toList) fun vs=>some (single vs,h)) q) (fun _=>none) (Prod.rec (fun fr h=>bO (resultsF E.P fr h fn.results.toList) fun vs=>some (single vs,h)) q) e)) none
def callFnF (E:Env) (call:CallV) (n:Nat) (f:FuncId) (args:List Value) (h:IH):Option (Value×IH):=Option.rec (motive:=fun _=>Option (Value×IH))
 (bO E.P.funcs[f]? fun fn=>Option.rec (motive:=fun _=>Option (Value×IH)) (okV h (carryI fn.name args)) (bodyF E call n f fn args h) fn.body) (fun g=>g args h) (E.intr f)
theorem callFnF_eq (E:Env) (call:CallV) (n:Nat) (f:FuncId) (args:List Value) (h:IH):callFnF E call n f args h=callFn E call n f args h:=by
 unfold callFnF callFn
 cases E.intr f with
 | some g=>rfl
 | none =>
  cases E.P.funcs[f]? with
  | none=>rfl
  | some fn =>
   simp only[bO_some]
   cases fn.body with
   | none=>exact okV_eq _ _
   | some c =>
    show bodyF E call n f fn args h c=bif Nat.ble args.length fn.ntmps then _ else none
    unfold bodyF
    rw[lenL_eq,iB_eq,evF_eq,enterF_eq]
    simp only[resultsF_eq]
    cases Nat.ble args.length fn.ntmps with
    | false=>rfl
    | true =>
     simp only[cond_true]
     cases evC E call f fn.ntmps none n c (enterFr 0 args) h with
     | none=>rfl
     | some p =>
      obtain⟨e,fr,h⟩:=p
      cases e with
      | exit i=>rfl
      | normal =>
       show bO (resultsOf E.P fr h fn.results.toList) _=(resultsOf E.P fr h fn.results.toList).map _
       cases resultsOf E.P fr h fn.results.toList<;>rfl
      | ret =>
       show bO (resultsOf E.P fr h fn.results.toList) _=(resultsOf E.P fr h fn.results.toList).map _
       cases resultsOf E.P fr h fn.results.toList<;>rfl
def paramsF (nt:Nat) (l:List Nat) (vs:List Value) (fr:Fr):Option Fr:=List.rec (motive:=fun _=>List Value→Fr→Option Fr) (fun vs fr=>List.rec (motive:=fun _=>Option Fr) (some fr) (fun _ _ _=>none) vs) (fun t _ ih vs fr=>List.rec (motive:=fun _=>Option Fr) none (fun v vs _=>bO (putF nt fr (some t) v) (ih vs)) vs) l vs fr
theorem paramsF_eq (nt:Nat) : ∀(l:List Nat) (vs:List Value) (fr:Fr),paramsF nt l vs fr=putParams nt l vs fr
 | [],[],_=>rfl
 | [],_ :: _,_=>rfl
 | _ :: _,[],_=>rfl
 | t :: l,v :: vs,fr=>by
  show bO (putF nt fr (some t) v) (paramsF nt l vs)=_
  rw[putF_eq,putParams]
  cases fput nt fr (some t) v with
  | none=>rfl
  | some fr=>exact paramsF_eq nt l vs fr
def yieldF (E:Env) (call:CallV) (n:Nat) (l:Nat) (args:List Value) (h:IH):Option (Value×IH) :=
 bO (loopOfF h l) fun r=>bO (paramsF r.nt r.params args r.fr) fun fr=>bO (evF E call r.fn r.nt (some l) n r.assign fr h) (Prod.rec fun e q=>IExit.rec (motive:=fun _=>Option (Value×IH)) (Prod.rec (fun fr h=>bO (loopOfF h l) fun r1=>iB (r1.state == .ready)
  (setF h l (.loop { r1 with state:=.busy }) fun h=>bO (evF E call r.fn r.nt (some l) n r.body fr h) (Prod.rec fun e q=>Prod.rec (fun _ h=>bO (loopOfF h l) fun r2=>IExit.rec (motive:=fun _=>Option (Value×IH))
   (setF h l (.loop { r2 with state:=.ready,pending:=none }) fun h=>some (.bool true,h))
   (fun i=>setF h l (.loop { r2 with state:=.done,pending:=some (.exit i) }) fun h=>some (.bool false,h))
   (setF h l (.loop { r2 with state:=.done,pending:=some .ret }) fun h=>some (.bool false,h)) e) q)) none) q) (fun _=>none) none e)
theorem yieldF_eq (E:Env) (call:CallV) (n:Nat) (l:Nat) (args:List Value) (h:IH):yieldF E call n l args h=callYield E call n l args h:=by
 unfold yieldF callYield
 simp only[loopOfF_eq,paramsF_eq,evF_eq,setF_eq,iB_eq]
 cases loopOf h l with
 | none=>rfl
 | some r =>
  simp only[bO_some]
  cases putParams r.nt r.params args r.fr with
  | none=>rfl
  | some fr =>
   simp only[bO_some]
   cases evC E call r.fn r.nt (some l) n r.assign fr h with
   | none=>rfl
   | some p =>
    obtain⟨e,fr,h⟩:=p
    cases e with
    | exit i=>rfl
    | ret=>rfl
    | normal =>
     simp only[bO_some]
     cases loopOf h l with
     | none=>rfl
     | some r1 =>
      simp only[bO_some]
      cases r1.state == .ready with
      | false=>rfl
      | true =>
       simp only[cond_true]
       cases evC E call r.fn r.nt (some l) n r.body fr { h with ext:=h.ext.set l (.loop { r1 with state:=.busy }) } with
       | none=>rfl
       | some p =>
        obtain⟨e,fr,h⟩:=p
        simp only[bO_some]
        cases loopOf h l with
        | none=>rfl
        | some r2=>cases e<;>rfl
def callF (E:Env) (n:Nat):CallV:=Nat.rec (motive:=fun _=>CallV) (fun _ _ _=>none) (fun n ih fv vs h=>match fv with
 | .func (.func f) first cap=>callFnF E ih n f (appF first.toList (appF vs cap.toList)) h
 | .func (.yield l) first _=>iB (Nat.beq (Nat.mod l 2) 0) (yieldF E ih n (Nat.div l 2) (appF first.toList vs) h) none
 | _=>none) n
theorem callF_eq (E:Env) : ∀n,callF E n=callV E n
 | 0=>rfl
 | n+1=>by
  funext fv vs h
  show(match fv with
   | .func (.func f) first cap=>callFnF E (callF E n) n f (appF first.toList (appF vs cap.toList)) h
   | .func (.yield l) first _=>iB (Nat.beq (Nat.mod l 2) 0) (yieldF E (callF E n) n (Nat.div l 2) (appF first.toList vs) h) none
   | _=>none)=match fv with
   | .func (.func f) first cap=>callFn E (callV E n) n f (first.toList ++ (vs ++ cap.toList)) h
   | .func (.yield l) first _=>bif l % 2 == 0 then callYield E (callV E n) n (l / 2) (first.toList ++ vs) h else none
   | _=>none
  rw[callF_eq E n]
  simp only[callFnF_eq,yieldF_eq,appF_eq,iB_eq,beqN];rfl
def boolF (E:Env) (n:Nat) (f:FuncId) (base:Nat→Option (List Value)):Bool:=Option.rec (motive:=fun _=>Bool) false (fun p=>match p.1 with|.bool b=>b|_=>false) (callF E n (.func (.func f) #[] #[]) [] (IH.start base))
theorem boolF_true {E:Env} {n:Nat} {f:FuncId} {base:Nat→Option (List Value)} (h:boolF E n f base=true) : ∃h',callV E n (.func (.func f) #[] #[]) [] (IH.start base)=some (.bool true,h'):=by
 unfold boolF at h
 rw[callF_eq] at h
 cases hc:callV E n (.func (.func f) #[] #[]) [] (IH.start base) with
 | none=>rw[hc] at h;cases h
 | some p =>
  obtain⟨v,h'⟩:=p
  rw[hc] at h
  cases v with
  | bool b =>
   cases b with
   | true=>exact⟨h',rfl⟩
   | false=>cases h
  | _=>cases h
end
end Go.Id

namespace Go.Id
open Go
noncomputable section
def w64:Nat:=18446744073709551616
def w512:Nat:=13407807929942597099574024998205846127479365820592393377723561443721764030073546976801874298166903427690031858186486050853753882811946569946433649006084096
def h512:Nat:=6703903964971298549787012499102923063739682910296196688861780721860882015036773488400937149083451713845015929093243025426876941405973284973216824503042048
def wordC (v:Value) (ih:Option Nat):Option Nat:=match v with
 | .int .u64 (.ofNat w)=>iB (Nat.ble (Nat.succ w) w64) (bO ih fun r=>some (Nat.add w (Nat.mul w64 r))) none
 | _=>none
def wordsF (l:List Value):Option Nat:=List.rec (motive:=fun _=>Option Nat) (some 0) (fun v _ ih=>wordC v ih) l
def sgnF (n:Nat):Int:=iB (Nat.ble (Nat.succ n) h512) (Int.ofNat n) (Int.negSucc (Nat.sub (Nat.sub w512 n) 1))
def wordF (z:Int):Nat:=Int.rec (motive:=fun _=>Nat) (fun n=>n) (fun n=>Nat.sub w512 (Nat.succ n)) z
def wordsL (k x:Nat) (tl:List Value):List Value:=Nat.rec (motive:=fun _=>Nat→List Value) (fun _=>tl) (fun _ ih x=>fN (Nat.mod x w64) fun w=>.int .u64 (.ofNat w) :: ih (Nat.div x w64)) k x
def aggF (num den:Int):Value:=.agg ⟨wordsL 8 (wordF num) (wordsL 8 (wordF den) [])⟩
def inF (z:Int):Bool:=Int.rec (motive:=fun _=>Bool) (fun n=>Nat.ble (Nat.succ n) h512) (fun n=>Nat.ble (Nat.succ n) h512) z
def toldF (n d:Int):Value:=fN (Int.gcd n d) fun g=>iB (inF (Int.ediv n (Int.ofNat g))) (iB (inF (Int.ediv d (Int.ofNat g))) (.tuple #[aggF (Int.ediv n (Int.ofNat g)) (Int.ediv d (Int.ofNat g)),.int .i64 (.ofNat 0)]) (.tuple #[aggF 0 0,.int .i64 (.ofNat 6)])) (.tuple #[aggF 0 0,.int .i64 (.ofNat 6)])
def posF (z:Int):Bool:=Int.rec (motive:=fun _=>Bool) (fun n=>Nat.ble 1 n) (fun _=>false) z
def okF (n d:Int):Bool:=iB (posF d) (Nat.beq (Int.gcd n d) 1) false
def shareF (v:Value) (k:Int→Int→Option Value):Option Value:=match v with
 | .agg cs=>iB (Nat.beq (lenL cs.toList) 16) (bO (wordsF cs.toList) fun x=>fN x fun x=>k (sgnF (Nat.mod x w512)) (sgnF (Nat.div x w512))) none
 | _=>none
def wideF (v:Value) (k:Int→Option Value):Option Value:=match v with
 | .agg cs=>iB (Nat.beq (lenL cs.toList) 8) (bO (wordsF cs.toList) fun x=>fN x fun x=>k (sgnF x)) none
 | _=>none
def intF (v:Value) (k:Int→Option Value):Option Value:=match v with
 | .int .i64 z=>k z
 | _=>none
def divF (n d:Int):Value:=Int.rec (motive:=fun _=>Value) (fun b=>toldF n (.ofNat b)) (fun b=>toldF (Int.neg n) (.ofNat (Nat.succ b))) d
def in64F (z:Int):Bool:=Int.rec (motive:=fun _=>Bool) (fun n=>Nat.ble (Nat.succ n) 9223372036854775808) (fun n=>Nat.ble (Nat.succ n) 9223372036854775808) z
def zeroF (z:Int):Bool:=Int.rec (motive:=fun _=>Bool) (fun n=>Nat.beq n 0) (fun _=>false) z
def cmpF (x y:Int):Int:=Int.rec (motive:=fun _=>Int) (fun n=>Nat.rec (motive:=fun _=>Int) 0 (fun _ _=>1) n) (fun _ => -1) (Int.sub x y)
def of2 (l:List Value):Option Value:=match l with
 | [n,d]=>intF n fun n=>intF d fun d=>iB (in64F n) (iB (in64F d) (iB (zeroF d) none (some (divF n d))) none) none
 | _=>none
def make2 (l:List Value):Option Value:=match l with
 | [n,d]=>wideF n fun n=>wideF d fun d=>iB (zeroF d) none (some (divF n d))
 | _=>none
def check1 (l:List Value):Option Value:=match l with
 | [a]=>shareF a fun n d=>some (.int .i64 (iB (okF n d) 0 20))
 | _=>none
def two2 (of:Int→Int→Int→Int→Option Value) (l:List Value):Option Value:=match l with
 | [a,b]=>shareF a fun n d=>iB (okF n d) (shareF b fun m e=>iB (okF m e) (of n d m e) none) none
 | _=>none
def cmp2 (l:List Value):Option Value:=two2 (fun n d m e=>some (.tuple #[.int .i64 (cmpF (Int.mul n e) (Int.mul m d)),.int .i64 0])) l
end
end Go.Id
