/-
  The ideal machine written for the kernel, third part: regions, code, calls. Fractions by value, for the kernel: what the functions of package share give, reckoned with the kernel's numbers. The functions of package share, by value: what WdEvS reckons is what they give. Contracts: Go's package slices, for numbers. Contracts: package divisor: within, known, the signposts. Shares compared. Contracts: package divisor: Post, ranks, Above, Rank. Structs compared, field by field. Contracts: package divisor: ranks compared, Above, Rank. Contracts: package divisor: Rank; package quota: Check; package bracket: within. The first place from which a property that stays holds. Signposts rise; the first seat whose signpost is not below a quotient. Contracts: sort.Search; the search for a signpost.
-/
import Derived.Test.YthpefnfbnaekaaaGreatBracketFindsAm
import Derived.Test.YthpefnfbnaekaaaGreatBracketFindsAl
import Derived.Test.YthpefnfbnaekaaaGreatBracketFindsAh
import Derived.Test.YthpefnfbnaekaaaGreatBracketFindsAg
set_option linter.unusedVariables false
set_option linter.unusedSimpArgs false
set_option linter.defProp false
set_option linter.deprecated false
/-! The ideal machine written for the kernel, third part: regions, code, calls. -/
namespace Go.Id
open Go
noncomputable section
def wantF (ops:List Oper) (g:Nat×Bool) (fr:Fr):Option Bool:=bO ((ops[g.1]?).bind (·.dst)) fun d=>bO (fgetF fr d) fun v=>match v with
 | .bool b=>some (b == g.2)
 | .tuple _=>some false
 | _=>none
theorem wantF_eq (ops:List Oper) (o:Oper) (j:Nat) (w:Bool) (fr:Fr) (hg:o.guard=some (j,w)):wantF ops (j,w) fr=wantedI ops o fr:=by
 unfold wantF wantedI
 rw[hg]
 simp only[fgetF_eq]
 cases(ops[j]?).bind (·.dst) with
 | none=>rfl
 | some d =>
  simp only[bO_some]
  cases fget fr d with
  | none=>rfl
  | some v=>cases v<;>rfl
def stepG (E:Env) (call:CallV) (nt:Nat) (o:Oper) (fr:Fr) (h:IH):Option (Fr×IH):=bO (runF o.op E call fr h) (Prod.rec fun v h=>bO (putF nt fr o.dst v) fun fr=>some (fr,h))
def stepF (E:Env) (call:CallV) (nt:Nat) (ops:List Oper) (o:Oper) (fr:Fr) (h:IH):Option (Fr×IH) :=
 Option.rec (motive:=fun _=>Option (Fr×IH)) (stepG E call nt o fr h) (fun g=>bO (wantF ops g fr) fun w=>iB w (stepG E call nt o fr h) (bO (putF nt fr o.dst undef) fun fr=>some (fr,h))) o.guard
theorem stepG_eq (E:Env) (call:CallV) (nt:Nat) (o:Oper) (fr:Fr) (h:IH):stepG E call nt o fr h=match runOp E call fr o.op h with
  | some (v,h)=>(fput nt fr o.dst v).map (·,h)
  | none=>none:=by
 unfold stepG
 rw[runF_eq]
 cases runOp E call fr o.op h with
 | none=>rfl
 | some p =>
  obtain⟨v,h⟩:=p
  simp only[bO_some,putF_eq]
  cases fput nt fr o.dst v<;>rfl
theorem stepF_eq (E:Env) (call:CallV) (nt:Nat) (ops:List Oper) (o:Oper) (fr:Fr) (h:IH):stepF E call nt ops o fr h=stepOp E call nt ops o fr h:=by
 unfold stepF stepOp
 cases hg:o.guard with
 | none =>
  rw[show wantedI ops o fr=some true from by unfold wantedI;rw[hg]]
  exact stepG_eq E call nt o fr h
 | some g =>
  obtain⟨j,w⟩:=g
  simp only
  rw[wantF_eq ops o j w fr hg]
  cases wantedI ops o fr with
  | none=>rfl
  | some b =>
   cases b with
   | true=>exact stepG_eq E call nt o fr h
   | false =>
    simp only[bO_some,iB_false,putF_eq]
    cases fput nt fr o.dst undef<;>rfl
def runOpsF (E:Env) (call:CallV) (nt:Nat) (ops l:List Oper) (fr:Fr) (h:IH):Option (Fr×IH):=List.rec (motive:=fun _=>Fr→IH→Option (Fr×IH)) (fun fr h=>some (fr,h)) (fun o _ ih fr h=>bO (stepF E call nt ops o fr h) (Prod.rec ih)) l fr h
theorem runOpsF_eq (E:Env) (call:CallV) (nt:Nat) (ops:List Oper) : ∀(l:List Oper) (fr:Fr) (h:IH),runOpsF E call nt ops l fr h=runOps E call nt ops l fr h
 | [],_,_=>rfl
 | o :: l,fr,h=>by
  show bO (stepF E call nt ops o fr h) (Prod.rec (runOpsF E call nt ops l))=_
  rw[stepF_eq,runOps]
  cases stepOp E call nt ops o fr h with
  | none=>rfl
  | some p=>exact runOpsF_eq E call nt ops l p.1 p.2
def traceF (E:Env) (call:CallV) (nt:Nat) (ops l:List Oper) (fr:Fr) (h:IH):Option (List (Fr×IH)):=List.rec (motive:=fun _=>Fr→IH→Option (List (Fr×IH))) (fun fr h=>some [(fr,h)]) (fun o _ ih fr h=>bO (stepF E call nt ops o fr h) (Prod.rec fun fr' h'=>bO (ih fr' h') fun l=>some ((fr,h) :: l))) l fr h
theorem traceF_eq (E:Env) (call:CallV) (nt:Nat) (ops:List Oper) : ∀(l:List Oper) (fr:Fr) (h:IH),traceF E call nt ops l fr h=trace E call nt ops l fr h
 | [],_,_=>rfl
 | o :: l,fr,h=>by
  show bO (stepF E call nt ops o fr h) (Prod.rec fun fr' h'=>bO (traceF E call nt ops l fr' h') fun l=>some ((fr,h) :: l))=_
  rw[stepF_eq,trace]
  cases stepOp E call nt ops o fr h with
  | none=>rfl
  | some p =>
   obtain⟨fr',h'⟩:=p
   simp only[bO_some,traceF_eq E call nt ops l]
   cases trace E call nt ops l fr' h'<;>rfl
def iopF (E:Env) (fr:Fr) (o:Op) (h:IH):Option (Value×IH):=runF o E (fun _ _ _=>none) fr h
theorem iopF_eq (E:Env) (fr:Fr) (o:Op) (h:IH):iopF E fr o h=iop E.P fr o h:=by
 unfold iopF
 rw[runF_eq]
 cases o<;>try rfl
 rename_i c
 simp only[runOp,iop]
 cases c.callee with
 | value f=>simp only;cases opd fr f<;>cases opds fr c.args.toList<;>rfl
 | _=>rfl
def steadyAtF (E:Env) (fr:Fr) (o:Op) (h h':IH):Bool :=
 match iopF E fr o h,iopF E fr o h' with
 | some (v,_),some (v',_)=>eqV v v'
 | _,_=>false
def wantI (ops:List Oper) (o:Oper) (fr:Fr):Option Bool:=Option.rec (motive:=fun _=>Option Bool) (some true) (fun g=>wantF ops g fr) o.guard
theorem wantI_eq (ops:List Oper) (o:Oper) (fr:Fr):wantI ops o fr=wantedI ops o fr:=by
 unfold wantI
 cases hg:o.guard with
 | none=>unfold wantedI;rw[hg]
 | some g=>exact wantF_eq ops o g.1 g.2 fr hg
def steadyF (E:Env) (ops:List Oper) (tr:List (Fr×IH)) (pl:List (Nat×List Nat)):Bool :=
 pl.all fun e=>match ops[e.1]?,tr[e.1]? with
  | some o,some (fr,h)=>match wantI ops o fr with
   | some true=>e.2.all fun p=>match tr[p]? with
    | some (_,h')=>steadyAtF E fr o.op h h'
    | none=>false
   | _=>true
  | _,_=>false
theorem steadyF_eq (E:Env) (ops:List Oper) (tr:List (Fr×IH)) (pl:List (Nat×List Nat)):steadyF E ops tr pl=steady E.P ops tr pl:=by
 have e:steadyAtF E=steadyAt E.P:=by
  funext fr o h h'
  unfold steadyAtF steadyAt
  rw[iopF_eq,iopF_eq];rfl
 have e2:wantI=wantedI:=by funext ops o fr;exact wantI_eq ops o fr
 unfold steadyF steady
 rw[e,e2];rfl
def planOf (ops:List Oper):Option (List (Nat×List Nat)):=bif orderOK ops then some (plan ops) else none
def drawnF (E:Env) (call:CallV) (nt:Nat) (ops:List Oper) (fr:Fr) (h:IH):Option (Fr×IH):=bO (planOf ops) (List.rec (motive:=fun _=>Option (Fr×IH)) (runOpsF E call nt ops ops fr h) (fun a l _=>bO (traceF E call nt ops ops fr h) fun tr=>iB (steadyF E ops tr (a :: l)) tr[ops.length]? none))
theorem trace_last (E:Env) (call:CallV) (nt:Nat) (ops:List Oper) : ∀(l:List Oper) (fr:Fr) (h:IH),(match trace E call nt ops l fr h with|none=>none|some tr=>tr[l.length]?)=runOps E call nt ops l fr h
 | [],_,_=>rfl
 | o :: l,fr,h=>by
  rw[trace,runOps]
  cases stepOp E call nt ops o fr h with
  | none=>rfl
  | some p =>
   obtain⟨fr',h'⟩:=p
   simp only
   rw[←trace_last E call nt ops l fr' h']
   cases trace E call nt ops l fr' h'<;>rfl
theorem drawnF_eq (E:Env) (call:CallV) (nt:Nat) (ops:List Oper) (fr:Fr) (h:IH):drawnF E call nt ops fr h=runDrawn E call nt ops fr h:=by
 unfold drawnF runDrawn planOf
 cases ho:orderOK ops with
 | false=>cases trace E call nt ops ops fr h<;>rfl
 | true =>
  simp only[cond_true,bO_some,Bool.true_and]
  cases hp:plan ops with
  | nil =>
   show runOpsF E call nt ops ops fr h=_
   rw[runOpsF_eq,←trace_last]
   cases trace E call nt ops ops fr h<;>rfl
  | cons a l =>
   show bO (traceF E call nt ops ops fr h) _=_
   simp only[traceF_eq,steadyF_eq,iB_eq]
   cases trace E call nt ops ops fr h<;>rfl
abbrev Sm:=Fr→IH→Out
def skipC:Sm:=fun fr h=>some (.normal,fr,h)
def exitC (i:Nat):Sm:=fun fr h=>some (.exit i,fr,h)
def retC:Sm:=fun fr h=>some (.ret,fr,h)
def noC:Sm:=fun _ _=>none
def afterC (k:Sm) (p:IExit×Fr×IH):Out:=Prod.rec (fun e q=>IExit.rec (motive:=fun _=>Out) (Prod.rec (fun fr h=>k fr h) q) (fun i=>some (.exit i,q)) (some (.ret,q)) e) p
def seqC (a b:Sm):Sm:=fun fr h=>bO (a fr h) (afterC b)
def condC (c:Operand) (a b:Sm):Sm:=fun fr h=>bO (opdF c fr) fun v=>match v with
 | .bool t=>iB t a b fr h
 | _=>none
def blockC (id:Nat) (b:Sm):Sm:=fun fr h=>bO (b fr h) (Prod.rec fun e q=>IExit.rec (motive:=fun _=>Out) (some (.normal,q)) (fun i=>iB (Nat.beq i id) (some (.normal,q)) (some (.exit i,q))) (some (.ret,q)) e)
def loopNF (b:Sm) (n:Nat):Sm:=Nat.rec (motive:=fun _=>Sm) noC (fun _ ih fr h=>bO (b fr h) (afterC ih)) n
theorem afterC_eq (k:Sm) (o:Out):bO o (afterC k)=match o with
  | some (.normal,fr,h)=>k fr h
  | some (.exit i,fr,h)=>some (.exit i,fr,h)
  | some (.ret,fr,h)=>some (.ret,fr,h)
  | none=>none:=by
 cases o with
 | none=>rfl
 | some p =>
  obtain⟨e,fr,h⟩:=p
  cases e<;>rfl
theorem loopNF_eq (b:Sm) : ∀n,loopNF b n=loopN b n
 | 0=>by funext fr h;rfl
 | n+1=>by
  funext fr h
  show bO (b fr h) (afterC (loopNF b n))=_
  rw[afterC_eq,loopNF_eq b n];rfl
def mapHead (b:Code):Bool:=match b with
 | .seq (.region _ ops draw) _=>(nextOf ops.toList draw).isSome
 | _=>false
def loopC (E:Env) (call:CallV) (fn:FuncId) (nt:Nat) (rd:Option Nat) (n:Nat) (b:Code) (ih:Sm):Sm:=iB (mapHead b) (evC E call fn nt rd n (.loop b)) (loopNF ih n)
def headF (E:Env) (fn:FuncId) (id:Nat) (fr:Fr):Fr:=Option.rec (motive:=fun _=>Fr) fr (fun l=>keepOnly fr l) (E.lv fn id)
theorem headF_eq (E:Env) (fn:FuncId) (id:Nat) (fr:Fr):headF E fn id fr=headFr E fn id fr:=by
 unfold headF headFr
 cases E.lv fn id<;>rfl
def regionC (E:Env) (call:CallV) (fn:FuncId) (nt:Nat) (id:Nat) (ops:Array Oper) (draw:Bool):Sm:=fun fr h=>bO (iB draw (drawnF E call nt ops.toList (headF E fn id fr) h) (runOpsF E call nt ops.toList ops.toList (headF E fn id fr) h)) fun q=>some (.normal,q)
def loopOfF (h:IH) (k:Nat):Option ILoop:=bO (trGet h.ext k) fun o=>match o with
 | .loop r=>some r
 | _=>none
theorem loopOfF_eq (h:IH) (k:Nat):loopOfF h k=loopOf h k:=by
 unfold loopOfF loopOf
 rw[trGet_eq]
 cases h.ext.get k with
 | none=>rfl
 | some o=>cases o<;>rfl
def roundF (h:IH) (rd:Option Nat):Bool:=Option.rec (motive:=fun _=>Bool) true (fun l=>(loopOfF h l).isSome) rd
theorem roundF_eq (h:IH) (rd:Option Nat):roundF h rd=roundOK h rd:=by
 cases rd with
 | none=>rfl
 | some l =>
  show(loopOfF h l).isSome=(loopOf h l).isSome
  rw[loopOfF_eq]
def rangeC (E:Env) (call:CallV) (fn:FuncId) (nt:Nat) (rd:Option Nat) (f:Operand) (params:Array Tmp) (assign body:Code):Sm:=fun fr h =>
 iB (roundF h rd) (bO (opdF f fr) fun fv=>newF h (.loop { state:=.ready,pending:=none,fn,nt,fr,params:=params.toList,assign,body }) fun k h0=>fN (Nat.mul 2 k) fun k2 =>
  bO (call fv [.func (.yield k2) #[] #[]] h0) (Prod.rec fun _ h1=>bO (loopOfF h1 k) fun r=>iB (r.state == .busy) none (bO (exitOf r.pending) fun e=>setF h1 k .dead fun h=>some (e,fr,h)))) none
theorem rangeC_eq (E:Env) (call:CallV) (fn:FuncId) (nt:Nat) (rd:Option Nat) (f:Operand) (params:Array Tmp) (assign body:Code) (fr:Fr) (h:IH):rangeC E call fn nt rd f params assign body fr h=rangeFn E call fn nt rd f params.toList assign body fr h:=by
 unfold rangeC rangeFn
 simp only[newF_eq,fN_eq,roundF_eq,loopOfF_eq,opdF_eq,setF_eq,iB_eq]
 cases roundOK h rd with
 | false=>rfl
 | true =>
  simp only[cond_true]
  cases opd fr f with
  | none=>rfl
  | some fv =>
   simp only[bO_some]
   show bO (call fv [.func (.yield (2*h.n)) #[] #[]] _) _=_
   cases call fv [.func (.yield (2*h.n)) #[] #[]] (h.new (.loop { state:=.ready,pending:=none,fn,nt,fr,params:=params.toList,assign,body })) with
   | none=>rfl
   | some p =>
    obtain⟨v,h1⟩:=p
    simp only[bO_some]
    cases loopOf h1 h.n with
    | none=>rfl
    | some r =>
     simp only[bO_some]
     cases r.state == .busy with
     | true=>rfl
     | false =>
      simp only[cond_false]
      cases exitOf r.pending<;>rfl
def evF (E:Env) (call:CallV) (fn:FuncId) (nt:Nat) (rd:Option Nat) (n:Nat) (c:Code):Sm:=Code.rec (motive:=fun _=>Sm) skipC (fun id ops draw=>regionC E call fn nt id ops draw) (fun _ _ a b=>seqC a b) (fun c _ _ a b=>condC c a b) (fun id _ b=>blockC id b) (fun b ih=>loopC E call fn nt rd n b ih)
 (fun f ps a b _ _=>rangeC E call fn nt rd f ps a b) exitC (fun _ b=>b) (fun _=>skipC) (fun _=>noC) retC (fun _=>noC) c
theorem evF_eq (E:Env) (call:CallV) (fn:FuncId) (nt:Nat) (rd:Option Nat) (n:Nat) : ∀(c:Code),evF E call fn nt rd n c=evC E call fn nt rd n c
 | .skip=>by funext fr h;rw[evC];rfl
 | .label _=>by funext fr h;rw[evC];rfl
 | .region id ops draw=>by
  funext fr h
  show bO (iB draw (drawnF E call nt ops.toList (headF E fn id fr) h) (runOpsF E call nt ops.toList ops.toList (headF E fn id fr) h)) _=_
  rw[evC,iB_eq,drawnF_eq,runOpsF_eq,headF_eq]
  cases(bif draw then runDrawn E call nt ops.toList (headFr E fn id fr) h else runOps E call nt ops.toList ops.toList (headFr E fn id fr) h)<;>rfl
 | .seq a b=>by
  funext fr h
  show bO (evF E call fn nt rd n a fr h) (afterC (evF E call fn nt rd n b))=_
  rw[evF_eq E call fn nt rd n a,evF_eq E call fn nt rd n b,afterC_eq,evC]
  cases evC E call fn nt rd n a fr h with
  | none=>rfl
  | some p=>rfl
 | .cond c a b=>by
  funext fr h
  show bO (opdF c fr) _=_
  simp only[evC,opdF_eq]
  show(bO (opd fr c) fun v=>match v with|.bool t=>iB t (evF E call fn nt rd n a) (evF E call fn nt rd n b) fr h|_=>none)=_
  rw[evF_eq E call fn nt rd n a,evF_eq E call fn nt rd n b]
  cases opd fr c with
  | none=>rfl
  | some v =>
   cases v with
   | bool t=>cases t<;>rfl
   | _=>rfl
 | .block id b=>by
  funext fr h
  show blockC id (evF E call fn nt rd n b) fr h=_
  rw[evF_eq E call fn nt rd n b,evC]
  unfold blockC
  cases evC E call fn nt rd n b fr h with
  | none=>rfl
  | some p =>
   obtain⟨e,fr,h⟩:=p
   cases e with
   | exit i =>
    show iB (Nat.beq i id) _ _=_
    rw[iB_eq]
    simp only[beqN]
   | _=>rfl
 | .loop b=>by
  funext fr h
  show loopC E call fn nt rd n b (evF E call fn nt rd n b) fr h=_
  rw[evF_eq E call fn nt rd n b]
  unfold loopC
  cases hm:mapHead b with
  | true=>rfl
  | false =>
   rw[iB_false,loopNF_eq]
   cases b with
   | seq a rest =>
    cases a with
    | region id ops draw =>
     rw[evC]
     have hn:nextOf ops.toList draw=none:=by
      cases ho:nextOf ops.toList draw with
      | none=>rfl
      | some x=>rw[mapHead,ho] at hm;cases hm
     rw[hn]
    | _=>rw[evC];intro _ _ _ _ h;cases h
   | _=>rw[evC];intro _ _ _ _ h;cases h
 | .scope b=>by
  show evF E call fn nt rd n b=_
  rw[evF_eq E call fn nt rd n b]
  funext fr h;rw[evC]
 | .rangeFunc f ps a b=>by
  funext fr h
  rw[evC];exact rangeC_eq E call fn nt rd f ps a b fr h
 | .exit i=>by funext fr h;rw[evC];rfl
 | .ret=>by funext fr h;rw[evC];rfl
 | .goto _=>by funext fr h;rw[evC];rfl
 | .refuse _=>by funext fr h;rw[evC];rfl
def resultF (P:Program) (fr:Fr) (h:IH) (r:ResultVar):Option Value:=match r with
 | .tmp t=>fgetF fr t
 | .cell a t=>bO (fgetF fr a) fun v=>loadF P h t v
def resultsF (P:Program) (fr:Fr) (h:IH) (l:List ResultVar):Option (List Value):=List.rec (motive:=fun _=>Option (List Value)) (some []) (fun r _ ih=>bO (resultF P fr h r) fun v=>bO ih fun vs=>some (v :: vs)) l
theorem resultsF_eq (P:Program) (fr:Fr) (h:IH) : ∀l,resultsF P fr h l=resultsOf P fr h l
 | []=>rfl
 | r :: l=>by
  show bO (resultF P fr h r) (fun v=>bO (resultsF P fr h l) fun vs=>some (v :: vs))=_
  rw[resultsF_eq P fr h l,resultsOf,show resultF P fr h r=resultOf P fr h r from ?_]
  ·cases resultOf P fr h r<;>cases resultsOf P fr h l<;>rfl
  ·cases r with
   | tmp t=>exact fgetF_eq fr t
   | cell a t =>
    show bO (fgetF fr a) _=_
    rw[fgetF_eq]
    simp only[resultOf,loadF_eq]
    cases fget fr a<;>rfl
def enterF (l:List Value):Fr:=List.rec (motive:=fun _=>Nat→Fr) (fun _ => []) (fun v _ ih i=>(i,v) :: ih (Nat.succ i)) l 0
theorem enterF_go : ∀(l:List Value) (i:Nat),List.rec (motive:=fun _=>Nat→Fr) (fun _ => []) (fun v _ ih i=>(i,v) :: ih (Nat.succ i)) l i=enterFr i l
 | [],_=>rfl
 | v :: l,i=>congrArg ((i,v) :: ·) (enterF_go l (i+1))
theorem enterF_eq (l:List Value):enterF l=enterFr 0 l:=enterF_go l 0
def bodyF (E:Env) (call:CallV) (n:Nat) (f:FuncId) (fn:Func) (args:List Value) (h:IH) (c:Code):Option (Value×IH) :=
 iB (Nat.ble (lenL args) fn.ntmps) (bO (evF E call f fn.ntmps none n c (enterF args) h) (Prod.rec fun e q=>IExit.rec (motive:=fun _=>Option (Value×IH))
  (Prod.rec (fun fr h=>bO (resultsF E.P fr h fn.results.toList) fun vs=>some (single vs,h)) q) (fun _=>none) (Prod.rec (fun fr h=>bO (resultsF E.P fr h fn.results.toList) fun vs=>some (single vs,h)) q) e)) none
def callFnF (E:Env) (call:CallV) (n:Nat) (f:FuncId) (args:List Value) (h:IH):Option (Value×IH):=Option.rec (motive:=fun _=>Option (Value×IH))
 (bO E.P.funcs[f]? fun fn=>Option.rec (motive:=fun _=>Option (Value×IH)) (okV h (carryI fn.name args)) (bodyF E call n f fn args h) fn.body) (fun g=>g args h) (E.intr f)
theorem callFnF_eq (E:Env) (call:CallV) (n:Nat) (f:FuncId) (args:List Value) (h:IH):callFnF E call n f args h=callFn E call n f args h:=by
 unfold callFnF callFn
 cases E.intr f with
 | some g=>rfl
 | none =>
  cases E.P.funcs[f]? with
  | none=>rfl
  | some fn =>
   simp only[bO_some]
   cases fn.body with
   | none=>exact okV_eq _ _
   | some c =>
    show bodyF E call n f fn args h c=bif Nat.ble args.length fn.ntmps then _ else none
    unfold bodyF
    rw[lenL_eq,iB_eq,evF_eq,enterF_eq]
    simp only[resultsF_eq]
    cases Nat.ble args.length fn.ntmps with
    | false=>rfl
    | true =>
     simp only[cond_true]
     cases evC E call f fn.ntmps none n c (enterFr 0 args) h with
     | none=>rfl
     | some p =>
      obtain⟨e,fr,h⟩:=p
      cases e with
      | exit i=>rfl
      | normal =>
       show bO (resultsOf E.P fr h fn.results.toList) _=(resultsOf E.P fr h fn.results.toList).map _
       cases resultsOf E.P fr h fn.results.toList<;>rfl
      | ret =>
       show bO (resultsOf E.P fr h fn.results.toList) _=(resultsOf E.P fr h fn.results.toList).map _
       cases resultsOf E.P fr h fn.results.toList<;>rfl
def paramsF (nt:Nat) (l:List Nat) (vs:List Value) (fr:Fr):Option Fr:=List.rec (motive:=fun _=>List Value→Fr→Option Fr) (fun vs fr=>List.rec (motive:=fun _=>Option Fr) (some fr) (fun _ _ _=>none) vs) (fun t _ ih vs fr=>List.rec (motive:=fun _=>Option Fr) none (fun v vs _=>bO (putF nt fr (some t) v) (ih vs)) vs) l vs fr
theorem paramsF_eq (nt:Nat) : ∀(l:List Nat) (vs:List Value) (fr:Fr),paramsF nt l vs fr=putParams nt l vs fr
 | [],[],_=>rfl
 | [],_ :: _,_=>rfl
 | _ :: _,[],_=>rfl
 | t :: l,v :: vs,fr=>by
  show bO (putF nt fr (some t) v) (paramsF nt l vs)=_
  rw[putF_eq,putParams]
  cases fput nt fr (some t) v with
  | none=>rfl
  | some fr=>exact paramsF_eq nt l vs fr
def yieldF (E:Env) (call:CallV) (n:Nat) (l:Nat) (args:List Value) (h:IH):Option (Value×IH) :=
 bO (loopOfF h l) fun r=>bO (paramsF r.nt r.params args r.fr) fun fr=>bO (evF E call r.fn r.nt (some l) n r.assign fr h) (Prod.rec fun e q=>IExit.rec (motive:=fun _=>Option (Value×IH)) (Prod.rec (fun fr h=>bO (loopOfF h l) fun r1=>iB (r1.state == .ready)
  (setF h l (.loop { r1 with state:=.busy }) fun h=>bO (evF E call r.fn r.nt (some l) n r.body fr h) (Prod.rec fun e q=>Prod.rec (fun _ h=>bO (loopOfF h l) fun r2=>IExit.rec (motive:=fun _=>Option (Value×IH))
   (setF h l (.loop { r2 with state:=.ready,pending:=none }) fun h=>some (.bool true,h))
   (fun i=>setF h l (.loop { r2 with state:=.done,pending:=some (.exit i) }) fun h=>some (.bool false,h))
   (setF h l (.loop { r2 with state:=.done,pending:=some .ret }) fun h=>some (.bool false,h)) e) q)) none) q) (fun _=>none) none e)
theorem yieldF_eq (E:Env) (call:CallV) (n:Nat) (l:Nat) (args:List Value) (h:IH):yieldF E call n l args h=callYield E call n l args h:=by
 unfold yieldF callYield
 simp only[loopOfF_eq,paramsF_eq,evF_eq,setF_eq,iB_eq]
 cases loopOf h l with
 | none=>rfl
 | some r =>
  simp only[bO_some]
  cases putParams r.nt r.params args r.fr with
  | none=>rfl
  | some fr =>
   simp only[bO_some]
   cases evC E call r.fn r.nt (some l) n r.assign fr h with
   | none=>rfl
   | some p =>
    obtain⟨e,fr,h⟩:=p
    cases e with
    | exit i=>rfl
    | ret=>rfl
    | normal =>
     simp only[bO_some]
     cases loopOf h l with
     | none=>rfl
     | some r1 =>
      simp only[bO_some]
      cases r1.state == .ready with
      | false=>rfl
      | true =>
       simp only[cond_true]
       cases evC E call r.fn r.nt (some l) n r.body fr { h with ext:=h.ext.set l (.loop { r1 with state:=.busy }) } with
       | none=>rfl
       | some p =>
        obtain⟨e,fr,h⟩:=p
        simp only[bO_some]
        cases loopOf h l with
        | none=>rfl
        | some r2=>cases e<;>rfl
def callF (E:Env) (n:Nat):CallV:=Nat.rec (motive:=fun _=>CallV) (fun _ _ _=>none) (fun n ih fv vs h=>match fv with
 | .func (.func f) first cap=>callFnF E ih n f (appF first.toList (appF vs cap.toList)) h
 | .func (.yield l) first _=>iB (Nat.beq (Nat.mod l 2) 0) (yieldF E ih n (Nat.div l 2) (appF first.toList vs) h) none
 | _=>none) n
theorem callF_eq (E:Env) : ∀n,callF E n=callV E n
 | 0=>rfl
 | n+1=>by
  funext fv vs h
  show(match fv with
   | .func (.func f) first cap=>callFnF E (callF E n) n f (appF first.toList (appF vs cap.toList)) h
   | .func (.yield l) first _=>iB (Nat.beq (Nat.mod l 2) 0) (yieldF E (callF E n) n (Nat.div l 2) (appF first.toList vs) h) none
   | _=>none)=match fv with
   | .func (.func f) first cap=>callFn E (callV E n) n f (first.toList ++ (vs ++ cap.toList)) h
   | .func (.yield l) first _=>bif l % 2 == 0 then callYield E (callV E n) n (l / 2) (first.toList ++ vs) h else none
   | _=>none
  rw[callF_eq E n]
  simp only[callFnF_eq,yieldF_eq,appF_eq,iB_eq,beqN];rfl
def boolF (E:Env) (n:Nat) (f:FuncId) (base:Nat→Option (List Value)):Bool:=Option.rec (motive:=fun _=>Bool) false (fun p=>match p.1 with|.bool b=>b|_=>false) (callF E n (.func (.func f) #[] #[]) [] (IH.start base))
theorem boolF_true {E:Env} {n:Nat} {f:FuncId} {base:Nat→Option (List Value)} (h:boolF E n f base=true) : ∃h',callV E n (.func (.func f) #[] #[]) [] (IH.start base)=some (.bool true,h'):=by
 unfold boolF at h
 rw[callF_eq] at h
 cases hc:callV E n (.func (.func f) #[] #[]) [] (IH.start base) with
 | none=>rw[hc] at h;cases h
 | some p =>
  obtain⟨v,h'⟩:=p
  rw[hc] at h
  cases v with
  | bool b =>
   cases b with
   | true=>exact⟨h',rfl⟩
   | false=>cases h
  | _=>cases h
end
end Go.Id

/-! Fractions by value, for the kernel: what the functions of package share give, reckoned with the kernel's numbers. -/
namespace Go.Id
open Go
noncomputable section
def w64:Nat:=18446744073709551616
def w512:Nat:=13407807929942597099574024998205846127479365820592393377723561443721764030073546976801874298166903427690031858186486050853753882811946569946433649006084096
def h512:Nat:=6703903964971298549787012499102923063739682910296196688861780721860882015036773488400937149083451713845015929093243025426876941405973284973216824503042048
def wordC (v:Value) (ih:Option Nat):Option Nat:=match v with
 | .int .u64 (.ofNat w)=>iB (Nat.ble (Nat.succ w) w64) (bO ih fun r=>some (Nat.add w (Nat.mul w64 r))) none
 | _=>none
def wordsF (l:List Value):Option Nat:=List.rec (motive:=fun _=>Option Nat) (some 0) (fun v _ ih=>wordC v ih) l
def sgnF (n:Nat):Int:=iB (Nat.ble (Nat.succ n) h512) (Int.ofNat n) (Int.negSucc (Nat.sub (Nat.sub w512 n) 1))
def wordF (z:Int):Nat:=Int.rec (motive:=fun _=>Nat) (fun n=>n) (fun n=>Nat.sub w512 (Nat.succ n)) z
def wordsL (k x:Nat) (tl:List Value):List Value:=Nat.rec (motive:=fun _=>Nat→List Value) (fun _=>tl) (fun _ ih x=>fN (Nat.mod x w64) fun w=>.int .u64 (.ofNat w) :: ih (Nat.div x w64)) k x
def aggF (num den:Int):Value:=.agg ⟨wordsL 8 (wordF num) (wordsL 8 (wordF den) [])⟩
def inF (z:Int):Bool:=Int.rec (motive:=fun _=>Bool) (fun n=>Nat.ble (Nat.succ n) h512) (fun n=>Nat.ble (Nat.succ n) h512) z
def toldF (n d:Int):Value:=fN (Int.gcd n d) fun g=>iB (inF (Int.ediv n (Int.ofNat g))) (iB (inF (Int.ediv d (Int.ofNat g))) (.tuple #[aggF (Int.ediv n (Int.ofNat g)) (Int.ediv d (Int.ofNat g)),.int .i64 (.ofNat 0)]) (.tuple #[aggF 0 0,.int .i64 (.ofNat 6)])) (.tuple #[aggF 0 0,.int .i64 (.ofNat 6)])
def posF (z:Int):Bool:=Int.rec (motive:=fun _=>Bool) (fun n=>Nat.ble 1 n) (fun _=>false) z
def okF (n d:Int):Bool:=iB (posF d) (Nat.beq (Int.gcd n d) 1) false
def shareF (v:Value) (k:Int→Int→Option Value):Option Value:=match v with
 | .agg cs=>iB (Nat.beq (lenL cs.toList) 16) (bO (wordsF cs.toList) fun x=>fN x fun x=>k (sgnF (Nat.mod x w512)) (sgnF (Nat.div x w512))) none
 | _=>none
def wideF (v:Value) (k:Int→Option Value):Option Value:=match v with
 | .agg cs=>iB (Nat.beq (lenL cs.toList) 8) (bO (wordsF cs.toList) fun x=>fN x fun x=>k (sgnF x)) none
 | _=>none
def intF (v:Value) (k:Int→Option Value):Option Value:=match v with
 | .int .i64 z=>k z
 | _=>none
def divF (n d:Int):Value:=Int.rec (motive:=fun _=>Value) (fun b=>toldF n (.ofNat b)) (fun b=>toldF (Int.neg n) (.ofNat (Nat.succ b))) d
def in64F (z:Int):Bool:=Int.rec (motive:=fun _=>Bool) (fun n=>Nat.ble (Nat.succ n) 9223372036854775808) (fun n=>Nat.ble (Nat.succ n) 9223372036854775808) z
def zeroF (z:Int):Bool:=Int.rec (motive:=fun _=>Bool) (fun n=>Nat.beq n 0) (fun _=>false) z
def cmpF (x y:Int):Int:=Int.rec (motive:=fun _=>Int) (fun n=>Nat.rec (motive:=fun _=>Int) 0 (fun _ _=>1) n) (fun _ => -1) (Int.sub x y)
def of2 (l:List Value):Option Value:=match l with
 | [n,d]=>intF n fun n=>intF d fun d=>iB (in64F n) (iB (in64F d) (iB (zeroF d) none (some (divF n d))) none) none
 | _=>none
def make2 (l:List Value):Option Value:=match l with
 | [n,d]=>wideF n fun n=>wideF d fun d=>iB (zeroF d) none (some (divF n d))
 | _=>none
def check1 (l:List Value):Option Value:=match l with
 | [a]=>shareF a fun n d=>some (.int .i64 (iB (okF n d) 0 20))
 | _=>none
def sign1 (l:List Value):Option Value:=match l with
 | [a]=>shareF a fun n d=>iB (okF n d) (some (.tuple #[.int .i64 (cmpF n 0),.int .i64 0])) none
 | _=>none
def two2 (of:Int→Int→Int→Int→Option Value) (l:List Value):Option Value:=match l with
 | [a,b]=>shareF a fun n d=>iB (okF n d) (shareF b fun m e=>iB (okF m e) (of n d m e) none) none
 | _=>none
def cmp2 (l:List Value):Option Value:=two2 (fun n d m e=>some (.tuple #[.int .i64 (cmpF (Int.mul n e) (Int.mul m d)),.int .i64 0])) l
def mul2 (l:List Value):Option Value:=two2 (fun n d m e=>some (toldF (Int.mul n m) (Int.mul d e))) l
def quo2 (l:List Value):Option Value:=two2 (fun n d m e=>iB (zeroF m) none (some (divF (Int.mul n e) (Int.mul d m)))) l
def max2 (l:List Value):Option Value:=two2 (fun n d m e=>some (iB (posF (Int.sub (Int.mul m d) (Int.mul n e))) (toldF m e) (toldF n d))) l
end
end Go.Id

/-! The functions of package share, by value: what WdEvS reckons is what they give. -/
namespace Go.Id
open Go
theorem w512_eq:w512=W8:=by rw[W8_eq];decide +kernel
theorem h512_eq:h512=H8:=by unfold H8;decide +kernel
theorem wordsF_some : ∀(l:List Value) (x:Nat),wordsF l=some x→x<18446744073709551616 ^ l.length∧l=(List.range l.length).map fun i=>K64 (wrd x i)
 | [],x,h=>by
  cases h;exact⟨by decide,rfl⟩
 | v :: l,x,h=>by
  change wordC v (wordsF l)=some x at h
  unfold wordC at h
  split at h
  case h_2=>cases h
  rename_i w
  obtain⟨h0,h⟩:=iB_some h
  cases hr:wordsF l with
  | none=>rw[hr] at h;cases h
  | some r =>
   rw[hr] at h
   cases h
   obtain⟨a,b⟩:=wordsF_some l r hr
   have hw:w<18446744073709551616:=bleI.1 h0
   show w+18446744073709551616*r<18446744073709551616 ^ (l.length+1)∧_
   refine⟨?_,?_⟩
   ·rw[Nat.pow_succ]
    have:(r+1)*18446744073709551616≤18446744073709551616 ^ l.length*18446744073709551616:=Nat.mul_le_mul_right _ a
    omega
   ·show _=(List.range (l.length+1)).map fun i=>K64 (wrd (w+18446744073709551616*r) i)
    rw[List.range_succ_eq_map,List.map_cons,List.map_map]
    have e0:wrd (w+18446744073709551616*r) 0=w:=by unfold wrd;rw[Nat.pow_zero,Nat.div_one];omega
    have e1 : ∀i,wrd (w+18446744073709551616*r) (i+1)=wrd r i:=fun i=>by
     unfold wrd
     rw[Nat.pow_succ,Nat.mul_comm (18446744073709551616 ^ i),←Nat.div_div_eq_div_mul,show(w+18446744073709551616*r) / 18446744073709551616=r from by omega]
    rw[e0]
    congr 1
    refine b.trans (List.map_congr_left fun i _=>?_)
    show _=K64 (wrd (w+18446744073709551616*r) (i+1))
    rw[e1]
theorem wrd_mod8 (x i:Nat) (hi:i<8):wrd (x % 18446744073709551616 ^ 8) i=wrd x i:=by
 have h:=wrd_add_low (n:=x % 18446744073709551616 ^ 8) (x:=x / 18446744073709551616 ^ 8) hi
 rw[←h,show x % 18446744073709551616 ^ 8+x / 18446744073709551616 ^ 8*18446744073709551616 ^ 8=x from by rw[Nat.mul_comm];exact Nat.mod_add_div _ _]
theorem wrd_div8 (x i:Nat):wrd (x / 18446744073709551616 ^ 8) i=wrd x (8+i):=by
 unfold wrd
 rw[Nat.div_div_eq_div_mul,←Nat.pow_add]
theorem words16 (x:Nat):((List.range 16).map fun i=>K64 (wrd x i))=shC (x % W8) (x / W8):=by
 rw[shC,wdC,wdC,W8_eq,show(16:Nat)=8+8 from rfl,List.range_add,List.map_append,List.map_map]
 congr 1
 ·exact List.map_congr_left fun i hi=>by rw[wrd_mod8 x i (by simpa using hi)]
 ·exact List.map_congr_left fun i hi=>by
   show K64 (wrd x (8+i))=_
   rw[wrd_div8]
theorem sgnF_eq {n:Nat} (hn:n<W8):sgnF n=wdI n:=by
 have e1:=h512_eq
 have e2:=w512_eq
 have e3:=W8_two
 unfold sgnF wdI
 rw[iB_eq,e1,e2]
 by_cases h:n<H8
 ·rw[if_pos h,bleI.2 h];rfl
 ·rw[if_neg h,Bool.eq_false_iff.2 (fun hb=>h (bleI.1 hb))]
  show Int.negSucc (W8 - n - 1)=_
  omega
theorem shareF_some {v:Value} {k:Int→Int→Option Value} {r:Value} (h:shareF v k=some r) : ∃p:Nat×Nat,(p.1<W8∧p.2<W8)∧v=shV p.1 p.2∧k (wdI p.1) (wdI p.2)=some r:=by
 unfold shareF at h
 split at h
 case h_2=>cases h
 rename_i cs
 obtain⟨h0,h⟩:=iB_some h
 have hl:cs.toList.length=16:=by rw[←lenL_eq];exact Nat.beq_eq.mp h0
 cases hx:wordsF cs.toList with
 | none=>rw[hx] at h;cases h
 | some x =>
  rw[hx,bO_some,fN_eq] at h
  obtain⟨a,b⟩:=wordsF_some _ _ hx
  rw[hl] at a b
  have ex:x<W8*W8:=by rw[W8_eq,←Nat.pow_add];exact a
  have hp:0<W8:=by have:=W8_two;have:=H8_pos;omega
  have q1:x % W8<W8:=Nat.mod_lt _ hp
  have q2:x / W8<W8:=by rw[Nat.div_lt_iff_lt_mul hp];exact ex
  refine⟨(x % W8,x / W8),⟨q1,q2⟩,?_,?_⟩
  ·rw[shV,←words16,←b]
  ·have h2:k (sgnF (x % w512)) (sgnF (x / w512))=some r:=h
   rw[w512_eq,sgnF_eq q1,sgnF_eq q2] at h2
   exact h2
theorem wideF_some {v:Value} {k:Int→Option Value} {r:Value} (h:wideF v k=some r) : ∃n:Nat,n<W8∧v=wdV n∧k (wdI n)=some r:=by
 unfold wideF at h
 split at h
 case h_2=>cases h
 rename_i cs
 obtain⟨h0,h⟩:=iB_some h
 have hl:cs.toList.length=8:=by rw[←lenL_eq];exact Nat.beq_eq.mp h0
 cases hx:wordsF cs.toList with
 | none=>rw[hx] at h;cases h
 | some x =>
  rw[hx,bO_some,fN_eq] at h
  obtain⟨a,b⟩:=wordsF_some _ _ hx
  rw[hl] at a b
  have q1:x<W8:=by rw[W8_eq];exact a
  refine⟨x,q1,?_,?_⟩
  ·rw[wdV,wdC,←b]
  ·rw[sgnF_eq q1] at h
   exact h
theorem intF_some {v:Value} {k:Int→Option Value} {r:Value} (h:intF v k=some r) : ∃z:Int,v=KI z∧k z=some r:=by
 unfold intF at h
 split at h
 case h_2=>cases h
 exact⟨_,rfl,h⟩
theorem wordsL_eq (tl:List Value) : ∀(k x:Nat),wordsL k x tl=((List.range k).map fun i=>K64 (wrd x i)) ++ tl
 | 0,_=>rfl
 | k+1,x=>by
  show fN (x % 18446744073709551616) (fun w=>Value.int .u64 (.ofNat w) :: wordsL k (x / 18446744073709551616) tl)=_
  rw[fN_eq,wordsL_eq tl k,List.range_succ_eq_map,List.map_cons,List.map_map,List.cons_append]
  have e0:wrd x 0=x % 18446744073709551616:=by unfold wrd;rw[Nat.pow_zero,Nat.div_one]
  rw[e0]
  congr 2
  refine List.map_congr_left fun i _=>?_
  show _=K64 (wrd x (i+1))
  unfold wrd
  rw[Nat.pow_succ,Nat.mul_comm (18446744073709551616 ^ i),Nat.div_div_eq_div_mul]
theorem wordF_eq {z:Int} (hz:InW z):wordF z=wideN z:=by
 have e2:=w512_eq
 unfold wideN
 cases z with
 | ofNat n=>rfl
 | negSucc n =>
  show w512 - (n+1)=_
  rw[e2,if_neg (by omega)];rfl
theorem aggF_eq {a b:Int} (ha:InW a) (hb:InW b):aggF a b=shV (wideN a) (wideN b):=by
 unfold aggF shV shC wdC
 rw[wordsL_eq,wordsL_eq,wordF_eq ha,wordF_eq hb,List.append_nil]
theorem inF_eq (z:Int):inF z=decide (InW z):=by
 have e1:=h512_eq
 have:=H8_pos
 rw[Bool.eq_iff_iff,decide_eq_true_eq]
 unfold InW
 cases z with
 | ofNat n =>
  show Nat.ble (n+1) h512=true ↔ -(H8:Int)≤(n:Int)∧(n:Int)<H8
  rw[bleI,e1]
  omega
 | negSucc n =>
  show Nat.ble (n+1) h512=true↔_
  rw[bleI,e1]
  omega
theorem toldF_eq {n d:Int} (hd:0<d):toldF n d=toldV (Rat.divInt n d):=by
 obtain⟨a,b⟩:=low_pos (n:=n) hd
 have z0:InW 0:=⟨by have:=H8_pos;omega,by have:=H8_pos;omega⟩
 have zz:aggF 0 0=shV 0 0:=by rw[aggF_eq z0 z0];rfl
 unfold toldF toldV
 rw[fN_eq,iB_eq,iB_eq,inF_eq,inF_eq]
 rw[show Int.ediv n (Int.ofNat (Int.gcd n d))=(Rat.divInt n d).num from a,show Int.ediv d (Int.ofNat (Int.gcd n d))=(Rat.divInt n d).den from b,zz]
 unfold QW
 by_cases c1:InW (Rat.divInt n d).num
 ·by_cases c2:InW ((Rat.divInt n d).den:Int)
  ·rw[if_pos ⟨c1,c2⟩,decide_eq_true c1,decide_eq_true c2,aggF_eq c1 c2];rfl
  ·rw[if_neg (fun h=>c2 h.2),decide_eq_true c1,decide_eq_false c2];rfl
 ·rw[if_neg (fun h=>c1 h.1),decide_eq_false c1];rfl
theorem posF_eq (z:Int):posF z=decide (0<z):=by
 rw[Bool.eq_iff_iff,decide_eq_true_eq]
 cases z with
 | ofNat n =>
  show Nat.ble 1 n=true↔0<(n:Int)
  rw[bleI];omega
 | negSucc n=>exact⟨fun h=>Bool.noConfusion h,fun h=>absurd h (by omega)⟩
theorem zeroF_eq (z:Int):zeroF z=decide (z=0):=by
 rw[Bool.eq_iff_iff,decide_eq_true_eq]
 cases z with
 | ofNat n =>
  show Nat.beq n 0=true↔(n:Int)=0
  rw[Nat.beq_eq];omega
 | negSucc n=>exact⟨fun h=>Bool.noConfusion h,fun h=>absurd h (by omega)⟩
theorem in64F_eq {z:Int} (h:in64F z=true):In64 z:=by
 unfold In64
 cases z with
 | ofNat n =>
  have:=bleI.1 (show Nat.ble (Nat.succ n) 9223372036854775808=true from h)
  show _≤(n:Int)∧(n:Int)<_
  omega
 | negSucc n =>
  have:=bleI.1 (show Nat.ble (Nat.succ n) 9223372036854775808=true from h)
  omega
theorem okF_ok {n d:Nat} (h:okF (wdI n) (wdI d)=true):okS n d:=by
 unfold okF at h
 rw[iB_eq,posF_eq] at h
 by_cases c:0<wdI d
 ·rw[decide_eq_true c] at h
  exact⟨c,Nat.beq_eq.mp h⟩
 ·rw[decide_eq_false c] at h;cases h
theorem okF_eq (n d:Nat):okF (wdI n) (wdI d)=(open Classical in decide (okS n d)):=by
 rw[Bool.eq_iff_iff,decide_eq_true_eq]
 refine⟨okF_ok,fun h=>?_⟩
 unfold okF
 rw[iB_eq,posF_eq,decide_eq_true h.1]
 exact Nat.beq_eq.mpr h.2
theorem divF_eq {n d:Int} (hd:d≠0):divF n d=toldV (Rat.divInt n d):=by
 cases d with
 | ofNat b =>
  show toldF n (b:Int)=toldV (Rat.divInt n (b:Int))
  have:(b:Int)≠0:=hd
  exact toldF_eq (by omega)
 | negSucc b =>
  show toldF (-n) ((b+1:Nat):Int)=_
  rw[toldF_eq (by omega)]
  congr 1
theorem cmpF_eq (x y:Int):cmpF x y=if x<y then -1 else if x=y then 0 else 1:=by
 unfold cmpF
 have e:Int.sub x y=x - y:=rfl
 rw[e]
 cases h:x - y with
 | ofNat n =>
  have h:x - y=(n:Int):=h
  cases n with
  | zero=>rw[if_neg (by omega),if_pos (by omega)];rfl
  | succ m=>rw[if_neg (by omega),if_neg (by omega)]
 | negSucc n=>rw[if_pos (by omega)]
theorem toldV_div {n d:Int} (hn:In64 n) (hd:In64 d) (d0:d≠0):toldV (Rat.divInt n d)=.tuple #[shareV (Rat.divInt n d),KI 0]:=by
 unfold toldV
 rw[if_pos (qw_div hn hd d0)]
abbrev Val (f:Value) (g:List Value→Option Value):Prop:=∀args v,args.all plain=true→g args=some v→plainT v=true∧WV Proofs.Tryz.prog f args (IH.start fun _=>none) fun r _=>r=v
theorem plain_shV (n d:Nat):plain (shV n d)=true:=by
 show(shC n d).toArray.all scal=true
 rw[shC,wdC,wdC,List.all_toArray,List.all_append,List.all_map,List.all_map]
 simp[scal]
theorem plain_toldV (q:Rat):plainT (toldV q)=true:=by
 obtain⟨n,d,e,h⟩:=toldV_form q
 rw[h]
 show [shV n d,KI e].all plain=true
 rw[List.all_cons,plain_shV];rfl
theorem val_of:Val (.func (.func 52) #[] #[]) of2:=by
 intro args v _ h
 unfold of2 at h
 split at h
 case h_2=>cases h
 obtain⟨n,e0,k⟩:=intF_some h
 clear h;subst e0;have h:=k;clear k
 obtain⟨d,e0,k⟩:=intF_some h
 clear h;subst e0;have h:=k;clear k
 obtain⟨h1,h⟩:=iB_some h
 obtain⟨h2,h⟩:=iB_some h
 obtain⟨h3,h⟩:=iB_some' h
 cases h
 have d0:d≠0:=by rw[zeroF_eq] at h3;exact of_decide_eq_false h3
 have e:=toldV_div (in64F_eq h1) (in64F_eq h2) d0
 rw[divF_eq d0]
 exact⟨plain_toldV _,(shof_ok n d (in64F_eq h1) (in64F_eq h2) d0).mono fun r h' k=>k.2.trans e.symm⟩
theorem val_of02:Val (.func (.func 46) #[] #[]) of2:=by
 intro args v _ h
 unfold of2 at h
 split at h
 case h_2=>cases h
 obtain⟨n,e0,k⟩:=intF_some h
 clear h;subst e0;have h:=k;clear k
 obtain⟨d,e0,k⟩:=intF_some h
 clear h;subst e0;have h:=k;clear k
 obtain⟨h1,h⟩:=iB_some h
 obtain⟨h2,h⟩:=iB_some h
 obtain⟨h3,h⟩:=iB_some' h
 cases h
 have d0:d≠0:=by rw[zeroF_eq] at h3;exact of_decide_eq_false h3
 have e:=toldV_div (in64F_eq h1) (in64F_eq h2) d0
 rw[divF_eq d0]
 exact⟨plain_toldV _,(ref02Of_ok n d (in64F_eq h1) (in64F_eq h2) d0).mono fun r h' k=>k.2.trans e.symm⟩
theorem val_make:Val (.func (.func 101) #[] #[]) make2:=by
 intro args v _ h
 unfold make2 at h
 split at h
 case h_2=>cases h
 obtain⟨n,hn,e0,k⟩:=wideF_some h
 clear h;subst e0;have h:=k;clear k
 obtain⟨d,hd,e0,k⟩:=wideF_some h
 clear h;subst e0;have h:=k;clear k
 obtain⟨h3,h⟩:=iB_some' h
 cases h
 have d0:wdI d≠0:=by rw[zeroF_eq] at h3;exact of_decide_eq_false h3
 rw[divF_eq d0]
 exact⟨plain_toldV _,(shmake_ok n d hn hd (fun e=>d0 ((wdI_zero_iff hd).2 e))).mono fun r h' k=>k.2⟩
theorem val_check:Val (.func (.func 50) #[] #[]) check1:=by
 intro args v _ h
 unfold check1 at h
 split at h
 case h_2=>cases h
 obtain⟨p,hp,e0,k⟩:=shareF_some h
 clear h;subst e0;have h:=k;clear k
 cases h
 rw[okF_eq,iB_eq]
 refine⟨rfl,(shcheck_ok p.1 p.2 hp.1 hp.2).mono fun r h' k=>k.2.trans ?_⟩
 by_cases c:okS p.1 p.2
 ·rw[if_pos c,decide_eq_true c];rfl
 ·rw[if_neg c,decide_eq_false c];rfl
theorem val_sign:Val (.func (.func 27) #[] #[]) sign1:=by
 intro args v _ h
 unfold sign1 at h
 split at h
 case h_2=>cases h
 obtain⟨p,hp,e0,k⟩:=shareF_some h
 clear h;subst e0;have h:=k;clear k
 obtain⟨ok,h⟩:=iB_some h
 cases h
 have ok:=okF_ok ok
 refine⟨rfl,(shsign_ok hp ok).mono fun r h' k=>k.2.trans ?_⟩
 have e:cmpF (wdI p.1) 0=if rOf p<0 then -1 else if rOf p=0 then 0 else 1:=by
  rw[cmpF_eq,←(rOf_parts ok).1]
  have hlt:rOf p<0↔(rOf p).num<0:=by rw[Rat.lt_iff];simp
  by_cases c:rOf p<0
  ·rw[if_pos c,if_pos (hlt.1 c)]
  ·rw[if_neg c,if_neg (fun h=>c (hlt.2 h))]
   by_cases c2:rOf p=0
   ·rw[if_pos c2,if_pos (Rat.num_eq_zero.2 c2)]
   ·rw[if_neg c2,if_neg (fun h=>c2 (Rat.num_eq_zero.1 h))]
 rw[e]
theorem two2_some {of:Int→Int→Int→Int→Option Value} {l:List Value} {v:Value} (h:two2 of l=some v) : ∃p q:Nat×Nat,(p.1<W8∧p.2<W8)∧(q.1<W8∧q.2<W8)∧okS p.1 p.2∧okS q.1 q.2∧l = [shV p.1 p.2,shV q.1 q.2]∧of (wdI p.1) (wdI p.2) (wdI q.1) (wdI q.2)=some v:=by
 unfold two2 at h
 split at h
 case h_2=>cases h
 obtain⟨p,hp,e0,k⟩:=shareF_some h
 clear h;subst e0;have h:=k;clear k
 obtain⟨ok1,h⟩:=iB_some h
 obtain⟨q,hq,e0,k⟩:=shareF_some h
 clear h;subst e0;have h:=k;clear k
 obtain⟨ok2,h⟩:=iB_some h
 exact⟨p,q,hp,hq,okF_ok ok1,okF_ok ok2,rfl,h⟩
theorem val_cmp:Val (.func (.func 21) #[] #[]) cmp2:=by
 intro args v _ h
 obtain⟨p,q,hp,hq,ok1,ok2,e0,k⟩:=two2_some h
 clear h;subst e0;have h:=k;clear k
 cases h
 refine⟨rfl,(shcmp_ok hp hq ok1 ok2).mono fun r h' k=>k.2.trans ?_⟩
 have e:cmpF (Int.mul (wdI p.1) (wdI q.2)) (Int.mul (wdI q.1) (wdI p.2))=if rOf p<rOf q then -1 else if rOf p=rOf q then 0 else 1:=by
  rw[cmpF_eq,←cmp_rat,(rOf_parts ok1).1,(rOf_parts ok1).2,(rOf_parts ok2).1,(rOf_parts ok2).2];rfl
 rw[e]
theorem val_mul:Val (.func (.func 26) #[] #[]) mul2:=by
 intro args v _ h
 obtain⟨p,q,hp,hq,ok1,ok2,e0,k⟩:=two2_some h
 clear h;subst e0;have h:=k;clear k
 cases h
 have e:toldF (Int.mul (wdI p.1) (wdI q.1)) (Int.mul (wdI p.2) (wdI q.2))=toldV (rOf p*rOf q):=by
  show toldF (wdI p.1*wdI q.1) (wdI p.2*wdI q.2)=_
  rw[toldF_eq (Int.mul_pos ok1.1 ok2.1),rat_mul,(rOf_parts ok1).1,(rOf_parts ok1).2,(rOf_parts ok2).1,(rOf_parts ok2).2]
 rw[e]
 exact⟨plain_toldV _,(shmul_ok hp hq ok1 ok2).mono fun r h' k=>k.2⟩
theorem val_div:Val (.func (.func 53) #[] #[]) quo2:=by
 intro args v _ h
 obtain⟨p,q,hp,hq,ok1,ok2,e0,k⟩:=two2_some h
 clear h;subst e0;have h:=k;clear k
 obtain⟨h3,h⟩:=iB_some' h
 cases h
 have m0:wdI q.1≠0:=by rw[zeroF_eq] at h3;exact of_decide_eq_false h3
 have d0:(Int.mul (wdI p.2) (wdI q.1))≠0:=Int.mul_ne_zero (by have:=ok1.1;omega) m0
 have e:divF (Int.mul (wdI p.1) (wdI q.2)) (Int.mul (wdI p.2) (wdI q.1))=toldV (rOf p / rOf q):=by
  rw[divF_eq d0,rat_div,(rOf_parts ok1).1,(rOf_parts ok1).2,(rOf_parts ok2).1,(rOf_parts ok2).2];rfl
 rw[e]
 exact⟨plain_toldV _,(shdiv_ok hp hq ok1 ok2 (fun e=>m0 ((wdI_zero_iff hq.1).2 e))).mono fun r h' k=>k.2⟩
theorem lt_wd {p q:Nat×Nat} (ok1:okS p.1 p.2) (ok2:okS q.1 q.2):(0<(Int.mul (wdI q.1) (wdI p.2)) - (Int.mul (wdI p.1) (wdI q.2)))↔rOf p<rOf q:=by
 rw[Rat.lt_iff,(rOf_parts ok1).1,(rOf_parts ok1).2,(rOf_parts ok2).1,(rOf_parts ok2).2]
 show 0<wdI q.1*wdI p.2 - wdI p.1*wdI q.2↔_
 omega
theorem val_max:Val (.func (.func 85) #[] #[]) max2:=by
 intro args v _ h
 obtain⟨p,q,hp,hq,ok1,ok2,e0,k⟩:=two2_some h
 clear h;subst e0;have h:=k;clear k
 cases h
 have e:iB (posF (Int.sub (Int.mul (wdI q.1) (wdI p.2)) (Int.mul (wdI p.1) (wdI q.2)))) (toldF (wdI q.1) (wdI q.2)) (toldF (wdI p.1) (wdI p.2))=toldV (qmax (rOf p) (rOf q)):=by
  rw[iB_eq,posF_eq,toldF_eq ok1.1,toldF_eq ok2.1]
  unfold qmax
  show(bif decide (0<(Int.mul (wdI q.1) (wdI p.2)) - (Int.mul (wdI p.1) (wdI q.2))) then toldV (rOf q) else toldV (rOf p))=_
  by_cases c:rOf p<rOf q
  ·rw[decide_eq_true ((lt_wd ok1 ok2).2 c),if_pos (Rat.le_of_lt c)];rfl
  ·rw[decide_eq_false (fun h=>c ((lt_wd ok1 ok2).1 h))]
   by_cases c2:rOf p≤rOf q
   ·rw[if_pos c2,Rat.le_antisymm c2 (Rat.not_lt.1 c)];rfl
   ·rw[if_neg c2];rfl
 rw[e]
 exact⟨plain_toldV _,(shmax_ok hp hq ok1 ok2).mono fun r h' k=>k.2⟩
end Go.Id

/-! Contracts: Go's package slices, for numbers. -/
namespace Go.Id
open Go
theorem indexFunc_ok {h:IH} {v fv:Value} {a:List Int} (p:Int→Bool) (ha:SlNow h 1 v a.length (a.map KI)) (la:a.length≤1000000000) (hp : ∀x∈a,WV Proofs.Tryz.prog fv [KI x] h fun r h'=>h'=h∧r=.bool (p x)) :
  WV Proofs.Tryz.prog (.func (.func 111) #[] #[]) [v,fv] h fun r h'=>h'=h ∧ ∃c:Int,r=KI c∧(0≤c↔a.any p=true):=by
 refine enter (nt:=19) (rs:=[.tmp 4]) Proofs.Tryz.func111 rfl rfl rfl (by simp) ?_
 simp -dsimp (disch:=omega) only[wpS,Nat.reduceEqDiff,Nat.reduceAdd,ha.len sl29]
 refine loop (fun m fr h1=>h1=h ∧ ∃i:Nat,i+m=a.length∧fget fr 0=some v∧fget fr 1=some fv∧fget fr 7=some (KI a.length)∧fget fr 8=some (KI i)∧a.any p=(a.drop i).any p) a.length ⟨rfl,0,by simp,by simp,by simp,by simp,by simp,by simp⟩ ?_
 rintro m fr h1 ⟨rfl,i,him,f0,f1,f7,f8,hz⟩
 simp -dsimp (disch:=omega) only[wpS,f7,f8]
 refine bq_intro ?_ ?_<;>intro hc2<;>simp only[decide_eq_true_eq,decide_eq_false_iff_not] at hc2
 ·have hi:i<a.length:=by omega
  obtain⟨x,hx⟩ : ∃x,a[i]?=some x:=⟨a[i],List.getElem?_eq_getElem hi⟩
  simp -dsimp (disch:=omega) only[wpS,wpT,Nat.reduceEqDiff,f0,f1,f8,ha.idx es29 hi,ha.ld (P:=Proofs.Tryz.prog) (t:=3) (c:=i) (by simpa using hi) ag3,List.getElem?_map,hx]
  refine call (hp x (List.mem_of_getElem? hx)) ?_
  rintro _ _ ⟨rfl,rfl⟩
  have ea:a.drop i=x :: a.drop (i+1):=by
   have h1:=List.getElem?_eq_some_iff.1 hx
   rw[←h1.2,List.getElem_cons_drop_succ_eq_drop]
  rw[ea,List.any_cons] at hz
  simp -dsimp (disch:=omega) only[wpS,Nat.reduceEqDiff]
  refine bq_intro ?_ ?_<;>intro hc
  ·simp -dsimp (disch:=omega) only[wpS,wpT,Nat.reduceEqDiff]
   exact⟨_,rfl,by rw[hz,hc];simp⟩
  ·simp -dsimp (disch:=omega) only[wpS,Nat.reduceEqDiff,f8]
   rw[hc,Bool.false_or] at hz
   exact⟨m - 1,by omega,rfl,i+1,by omega,by simp[f0],by simp[f1],by simp[f7],by simp,hz⟩
 ·simp -dsimp (disch:=omega) only[wpS,wpT]
  exact⟨_,rfl,by rw[hz,List.drop_of_length_le (by omega)];simp⟩
theorem containsFunc_ok {h:IH} {v fv:Value} {a:List Int} (p:Int→Bool) (ha:SlNow h 1 v a.length (a.map KI)) (la:a.length≤1000000000) (hp : ∀x∈a,WV Proofs.Tryz.prog fv [KI x] h fun r h'=>h'=h∧r=.bool (p x)) :
  WV Proofs.Tryz.prog (.func (.func 67) #[] #[]) [v,fv] h fun r h'=>h'=h∧r=.bool (a.any p):=by
 refine enter (nt:=9) (rs:=[.tmp 4]) Proofs.Tryz.func67 rfl rfl rfl (by simp) ?_
 simp -dsimp (disch:=omega) only[wpS,Nat.reduceEqDiff,Nat.reduceAdd]
 refine call (indexFunc_ok p ha la hp) ?_
 rintro _ _ ⟨rfl,c,rfl,hc⟩
 simp -dsimp (disch:=omega) only[wpS,wpT,Nat.reduceEqDiff]
 cases hb:a.any p
 ·rw[hb] at hc
  simp at hc
  simp;exact hc
 ·rw[hb] at hc
  simp at hc
  simp;exact hc
end Go.Id

/-! Contracts: package divisor: within, known, the signposts. -/
namespace Go.Id
open Go
abbrev outR (lo hi n:Int):Bool:=decide (n<lo) || decide (hi<n)
abbrev inR (lo hi:Int) (l:List Int):Bool:=!(l.any (outR lo hi))
theorem inR_iff {lo hi:Int} {l:List Int}:inR lo hi l=true ↔ ∀n∈l,lo≤n∧n≤hi:=by
 unfold inR
 rw[Bool.not_eq_true',List.any_eq_false]
 refine⟨fun h n hn=>?_,fun h n hn=>?_⟩
 ·have:=h n hn
  simp only[outR,Bool.or_eq_true,decide_eq_true_eq,not_or] at this
  omega
 ·have:=h n hn
  simp only[outR,Bool.or_eq_true,decide_eq_true_eq,not_or]
  omega
theorem within1_ok {h:IH} {b b2:Nat} {lo hi n:Int} (g:h.ext.get b=some (.cells [KI lo] 0 none)) (g2:h.ext.get b2=some (.cells [KI hi] 0 none)) :
  WV Proofs.Tryz.prog (.func (.func 112) #[] #[ptr (2*b) 0,ptr (2*b2) 0]) [KI n] h fun r h'=>h'=h∧r=.bool (outR lo hi n):=by
 refine enter (nt:=13) (rs:=[.tmp 4]) Proofs.Tryz.func112 rfl rfl rfl (by simp) ?_
 by_cases c:n<lo
 ·have d:decide (n<lo)=true:=decide_eq_true c
  simp -dsimp (disch:=omega) only[wpS,wpT,Nat.reduceEqDiff,Nat.reduceAdd,ld3,row_of g,d]
  simp[outR,d]
 ·have d:decide (n<lo)=false:=decide_eq_false c
  simp -dsimp (disch:=omega) only[wpS,wpT,Nat.reduceEqDiff,Nat.reduceAdd,ld3,row_of g,row_of g2,d]
  simp[outR,d]
theorem within_ok {h:IH} {v:Value} {l:List Int} (lo hi:Int) (hv:SlOf h 1 v l.length (l.map KI)) (hl:l.length≤1000000000) :
  WV Proofs.Tryz.prog (.func (.func 72) #[] #[]) [KI lo,KI hi,v] h fun r h'=>Ext h h'∧r=.bool (inR lo hi l):=by
 refine enter (nt:=11) (rs:=[.tmp 6]) Proofs.Tryz.func72 rfl rfl rfl (by simp) ?_
 simp -dsimp (disch:=omega) only[wpS,Nat.reduceEqDiff,Nat.reduceAdd]
 obtain⟨H0,hH0,n0,E0,g0,g1⟩:=boxes2 h [KI lo] [KI hi]
 rw[←hH0]
 clear hH0
 refine call (containsFunc_ok (outR lo hi) (hv.keep E0.keep).now hl (fun x hx=>within1_ok g0 g1)) ?_
 rintro _ _ ⟨rfl,rfl⟩
 simp -dsimp (disch:=omega) only[wpS,wpT,Nat.reduceEqDiff]
 exact E0
theorem built1 (h:IH) (a:Int):SlOf (h.new (.cells [KI a] 1 none)) 1 (.slice (some ⟨2*h.n,0,none⟩) 1 3) 1 [KI a]:=built_sl h (m:=1) (by omega) rfl (by omega)
theorem built2 (h:IH) (a b:Int):SlOf (h.new (.cells [KI a,KI b] 1 none)) 1 (.slice (some ⟨2*h.n,0,none⟩) 2 5) 2 [KI a,KI b]:=built_sl h (m:=2) (by omega) rfl (by omega)
theorem known_ok {h:IH} {v:Value} {l:List Int} (m:Int) (hv:SlOf h 1 v l.length (l.map KI)) (hl:l.length≤1000000000) :
  WV Proofs.Tryz.prog (.func (.func 71) #[] #[]) [KI m,v] h fun r h'=>Ext h h'∧r=.bool (inR 11 15 [m] && inR 0 1000 l):=by
 refine enter (nt:=12) (rs:=[.tmp 4]) Proofs.Tryz.func71 rfl rfl rfl (by simp) ?_
 simp -dsimp (disch:=omega) only[wpS,wpT,Nat.reduceEqDiff,Nat.reduceLeDiff,Nat.reduceAdd,bs29]
 have E1:Ext h (h.new (.cells [KI m] 1 none)):=(Ext.refl h).new _
 refine call (within_ok (l:=[m]) 11 15 (built1 h m) (by simp)) ?_
 rintro _ h1 ⟨X1,rfl⟩
 have E2:=E1.trans X1
 cases c:inR 11 15 [m]
 ·simp -dsimp (disch:=omega) only[wpS,wpT,Nat.reduceEqDiff]
  exact E2
 ·simp -dsimp (disch:=omega) only[wpS,wpT,Nat.reduceEqDiff]
  refine call (within_ok (l:=l) 0 1000 (hv.keep E2.keep) hl) ?_
  rintro _ h2 ⟨X2,rfl⟩
  simp -dsimp (disch:=omega) only[wpS,wpT,Nat.reduceEqDiff]
  exact E2.trans X2
def postN (m s:Nat):Nat:=if m=11 then s else if m=12 then 2*s*(s+1) else if m=13 then s*(s+1) else if m=14 then 2*s+1 else s+1
def postD (m s:Nat):Nat:=if m=12 then 2*s+1 else if m=14 then 2 else 1
theorem postD_pos (m s:Nat):0<postD m s:=by unfold postD;split;omega;split<;>omega
theorem postN_le {m s:Nat} (h:s≤1000):postN m s≤2002000:=by
 have h1:s*(s+1)≤1000*1001:=Nat.mul_le_mul h (by omega)
 have h2:2*s*(s+1)=2*(s*(s+1)):=Nat.mul_assoc _ _ _
 unfold postN
 repeat' split
 all_goals omega
theorem postD_le {m s:Nat} (h:s≤1000):postD m s≤2001:=by
 unfold postD
 repeat' split
 all_goals omega
theorem adams_ok {h:IH} (s:Nat):WV Proofs.Tryz.prog (.func (.func 131) #[] #[]) [KN s] h fun r h'=>h'=h∧r=.tuple #[KN s,KN 1]:=by
 refine enter (nt:=5) (rs:=[.tmp 2,.tmp 3]) Proofs.Tryz.func131 rfl rfl rfl (by simp) ?_
 simp -dsimp (disch:=omega) only[wpS,wpT,Nat.reduceEqDiff]
 rfl
theorem dean_ok {h:IH} (s:Nat) (hs:s≤1000):WV Proofs.Tryz.prog (.func (.func 132) #[] #[]) [KN s] h fun r h'=>h'=h∧r=.tuple #[KN (2*s*(s+1)),KN (2*s+1)]:=by
 have h1:s*(s+1)≤1000*1001:=Nat.mul_le_mul hs (by omega)
 have h2:2*s*(s+1)=2*(s*(s+1)):=Nat.mul_assoc _ _ _
 have e1:IntKind.i64.wrap (2*(s:Int))=((2*s:Nat):Int):=by rw[wrap_i64 (by omega)];omega
 have e2:IntKind.i64.wrap ((s:Int)+1)=((s+1:Nat):Int):=by rw[wrap_i64 (by omega)];omega
 have e3:IntKind.i64.wrap (((2*s:Nat):Int)*((s+1:Nat):Int))=((2*s*(s+1):Nat):Int):=by rw[←Int.natCast_mul,wrap_i64 (by omega)]
 have e4:IntKind.i64.wrap (((2*s:Nat):Int)+1)=((2*s+1:Nat):Int):=by rw[wrap_i64 (by omega)];omega
 refine enter (nt:=12) (rs:=[.tmp 2,.tmp 3]) Proofs.Tryz.func132 rfl rfl rfl (by simp) ?_
 simp -dsimp (disch:=omega) only[wpS,wpT,Nat.reduceEqDiff,e1,e2,e3,e4]
theorem hill_ok {h:IH} (s:Nat) (hs:s≤1000):WV Proofs.Tryz.prog (.func (.func 133) #[] #[]) [KN s] h fun r h'=>h'=h∧r=.tuple #[KN (s*(s+1)),KN 1]:=by
 have h1:s*(s+1)≤1000*1001:=Nat.mul_le_mul hs (by omega)
 have e2:IntKind.i64.wrap ((s:Int)+1)=((s+1:Nat):Int):=by rw[wrap_i64 (by omega)];omega
 have e3:IntKind.i64.wrap ((s:Int)*((s+1:Nat):Int))=((s*(s+1):Nat):Int):=by rw[←Int.natCast_mul,wrap_i64 (by omega)]
 refine enter (nt:=8) (rs:=[.tmp 2,.tmp 3]) Proofs.Tryz.func133 rfl rfl rfl (by simp) ?_
 simp -dsimp (disch:=omega) only[wpS,wpT,Nat.reduceEqDiff,e2,e3]
 rfl
theorem webster_ok {h:IH} (s:Nat) (hs:s≤1000):WV Proofs.Tryz.prog (.func (.func 134) #[] #[]) [KN s] h fun r h'=>h'=h∧r=.tuple #[KN (2*s+1),KN 2]:=by
 have e1:IntKind.i64.wrap (2*(s:Int))=((2*s:Nat):Int):=by rw[wrap_i64 (by omega)];omega
 have e4:IntKind.i64.wrap (((2*s:Nat):Int)+1)=((2*s+1:Nat):Int):=by rw[wrap_i64 (by omega)];omega
 refine enter (nt:=7) (rs:=[.tmp 2,.tmp 3]) Proofs.Tryz.func134 rfl rfl rfl (by simp) ?_
 simp -dsimp (disch:=omega) only[wpS,wpT,Nat.reduceEqDiff,e1,e4]
 rfl
theorem jefferson_ok {h:IH} (s:Nat) (hs:s≤1000):WV Proofs.Tryz.prog (.func (.func 135) #[] #[]) [KN s] h fun r h'=>h'=h∧r=.tuple #[KN (s+1),KN 1]:=by
 have e2:IntKind.i64.wrap ((s:Int)+1)=((s+1:Nat):Int):=by rw[wrap_i64 (by omega)];omega
 refine enter (nt:=6) (rs:=[.tmp 2,.tmp 3]) Proofs.Tryz.func135 rfl rfl rfl (by simp) ?_
 simp -dsimp (disch:=omega) only[wpS,wpT,Nat.reduceEqDiff,e2]
 rfl
theorem post_ok {h:IH} {m s:Nat} (hm:11≤m∧m≤15) (hs:s≤1000) :
  WV Proofs.Tryz.prog (.func (.func 104) #[] #[]) [KN s,KN m] h fun r h'=>Ext h h'∧r=.tuple #[KN (postN m s),KN (postD m s)]:=by
 have hc:m=11∨m=12∨m=13∨m=14∨m=15:=by omega
 rcases hc with rfl|rfl|rfl|rfl|rfl
 ·have i0:idxAt (((11:Nat):Int) - 11) 5=some 0:=rfl
  refine enter (nt:=16) (rs:=[.tmp 4,.tmp 5]) Proofs.Tryz.func104 rfl rfl rfl (by simp) ?_
  simp -dsimp (disch:=omega) only[wpS,wpT,Nat.reduceEqDiff,Nat.reduceLeDiff,Nat.reduceAdd,bv184,pl184_0,pl184_1,pl184_2,pl184_3,pl184_4,zc184,st184,ar184,ld182,i0]
  refine call (adams_ok s) ?_
  rintro _ _ ⟨rfl,rfl⟩
  simp -dsimp (disch:=omega) only[wpS,Nat.reduceEqDiff]
  exact⟨((Ext.refl h).new _).put (by simp) _,rfl⟩
 ·have i0:idxAt (((12:Nat):Int) - 11) 5=some 1:=rfl
  refine enter (nt:=16) (rs:=[.tmp 4,.tmp 5]) Proofs.Tryz.func104 rfl rfl rfl (by simp) ?_
  simp -dsimp (disch:=omega) only[wpS,wpT,Nat.reduceEqDiff,Nat.reduceLeDiff,Nat.reduceAdd,bv184,pl184_0,pl184_1,pl184_2,pl184_3,pl184_4,zc184,st184,ar184,ld182,i0]
  refine call (dean_ok s hs) ?_
  rintro _ _ ⟨rfl,rfl⟩
  simp -dsimp (disch:=omega) only[wpS,Nat.reduceEqDiff]
  exact⟨((Ext.refl h).new _).put (by simp) _,rfl⟩
 ·have i0:idxAt (((13:Nat):Int) - 11) 5=some 2:=rfl
  refine enter (nt:=16) (rs:=[.tmp 4,.tmp 5]) Proofs.Tryz.func104 rfl rfl rfl (by simp) ?_
  simp -dsimp (disch:=omega) only[wpS,wpT,Nat.reduceEqDiff,Nat.reduceLeDiff,Nat.reduceAdd,bv184,pl184_0,pl184_1,pl184_2,pl184_3,pl184_4,zc184,st184,ar184,ld182,i0]
  refine call (hill_ok s hs) ?_
  rintro _ _ ⟨rfl,rfl⟩
  simp -dsimp (disch:=omega) only[wpS,Nat.reduceEqDiff]
  exact⟨((Ext.refl h).new _).put (by simp) _,rfl⟩
 ·have i0:idxAt (((14:Nat):Int) - 11) 5=some 3:=rfl
  refine enter (nt:=16) (rs:=[.tmp 4,.tmp 5]) Proofs.Tryz.func104 rfl rfl rfl (by simp) ?_
  simp -dsimp (disch:=omega) only[wpS,wpT,Nat.reduceEqDiff,Nat.reduceLeDiff,Nat.reduceAdd,bv184,pl184_0,pl184_1,pl184_2,pl184_3,pl184_4,zc184,st184,ar184,ld182,i0]
  refine call (webster_ok s hs) ?_
  rintro _ _ ⟨rfl,rfl⟩
  simp -dsimp (disch:=omega) only[wpS,Nat.reduceEqDiff]
  exact⟨((Ext.refl h).new _).put (by simp) _,rfl⟩
 ·have i0:idxAt (((15:Nat):Int) - 11) 5=some 4:=rfl
  refine enter (nt:=16) (rs:=[.tmp 4,.tmp 5]) Proofs.Tryz.func104 rfl rfl rfl (by simp) ?_
  simp -dsimp (disch:=omega) only[wpS,wpT,Nat.reduceEqDiff,Nat.reduceLeDiff,Nat.reduceAdd,bv184,pl184_0,pl184_1,pl184_2,pl184_3,pl184_4,zc184,st184,ar184,ld182,i0]
  refine call (jefferson_ok s hs) ?_
  rintro _ _ ⟨rfl,rfl⟩
  simp -dsimp (disch:=omega) only[wpS,Nat.reduceEqDiff]
  exact⟨((Ext.refl h).new _).put (by simp) _,rfl⟩
end Go.Id

/-! Shares compared. -/
namespace Go.Id
open Go
section
variable {P:Program}
theorem pr_program:pureRun P (program)=some P:=rfl
theorem pr_part_agg {e:TypeId} {n:Nat} (hA:isAggT P e=some true) (hs:sizeT P e=some n) (cs:Array Value) (off:Nat):pureRun P (part e cs off)=some (.agg (cs.extract off (off+n))):=by
 unfold part
 have h1:pureRun P (isAgg e)=some true:=by
  unfold isAgg
  simp only[isAggT,Option.map_eq_some_iff] at hA
  obtain⟨d,hd,hA⟩:=hA
  rw[pr_bind (pr_underlying hd)]
  cases d<;>first|rfl|(simp at hA)
 rw[pr_bind h1]
 simp only[if_true]
 rw[pr_bind (pr_sizeOf hs)]
 rfl
theorem binop_eql_gen {t:TypeId} {x y:Array Value} {b:Bool} (hg:P.eqGuardType P.depth t=false) (hx:plain (.agg x)=true) (hy:plain (.agg y)=true) (h:pureRun P (Op.equal t (.agg x) (.agg y))=some b) (ox oy:Operand):binop P .eql t ox oy (.agg x) (.agg y)=some (.bool b):=by
 refine binop_of P t ox oy hx hy rfl ?_
 have h1:pureRun P (eqGuard .eql t ox oy (.agg x) (.agg y))=some ():=by
  show pureRun P (if (!P.eqGuardType P.depth t)=true then _ else _)=_
  rw[hg];rfl
 rw[pr_bind h1]
 show pureRun P (Op.equal t _ _ >>= fun r=>pure (Value.bool r))=_
 rw[pr_bind h];rfl
theorem binop_neq_gen {t:TypeId} {x y:Array Value} {b:Bool} (hg:P.eqGuardType P.depth t=false) (hx:plain (.agg x)=true) (hy:plain (.agg y)=true) (h:pureRun P (Op.equal t (.agg x) (.agg y))=some b) (ox oy:Operand):binop P .neq t ox oy (.agg x) (.agg y)=some (.bool (!b)):=by
 refine binop_of P t ox oy hx hy rfl ?_
 have h1:pureRun P (eqGuard .neq t ox oy (.agg x) (.agg y))=some ():=by
  show pureRun P (if (!P.eqGuardType P.depth t)=true then _ else _)=_
  rw[hg];rfl
 rw[pr_bind h1]
 show pureRun P (Op.equal t _ _ >>= fun r=>pure (Value.bool !r))=_
 rw[pr_bind h];rfl
end
theorem sh_ext1 (n d:Nat):((shC n d).toArray).extract 0 8=(wdC n).toArray:=by
 simp only[List.extract_toArray,List.extract_eq_take_drop]
 rw[show(8 - 0)=8 from rfl,sh_take1]
theorem sh_ext2 (n d:Nat):((shC n d).toArray).extract 8 16=(wdC d).toArray:=by
 simp only[List.extract_toArray,List.extract_eq_take_drop]
 rw[show(16 - 8)=8 from rfl,sh_take2]
theorem wd_equalIn {n m:Nat} (hn:n<W8) (hm:m<W8) (k:Nat):pureRun Proofs.Tryz.prog (Op.equalIn (k+2) 45 (.agg (wdC n).toArray) (.agg (wdC m).toArray))=some (decide (n=m)):=by
 rw[wdC_map,wdC_map,pr_equal_arr u45 u43 sz43 _ _ _ (by simp) (by simp),wd_dec hn hm]
theorem sh_equalIn {n d n' d':Nat} (h1:n<W8) (h2:d<W8) (h3:n'<W8) (h4:d'<W8) (k:Nat):pureRun Proofs.Tryz.prog (Op.equalIn (k+3) 47 (.agg (shC n d).toArray) (.agg (shC n' d').toArray))=some (decide (n=n'∧d=d')):=by
 unfold Op.equalIn
 rw[pr_bind (pr_underlying (show Program.underlying Proofs.Tryz.prog 47=some (.struct { toList:=[{ name := "N",type:=45,offset:=0,embedded:=false,tag := "",pkgPath := "",byteOffset:=0 },{ name := "D",type:=45,offset:=8,embedded:=false,tag := "",pkgPath := "",byteOffset:=64 }] }) by kernel_rfl))]
 simp only
 rw[pr_bind pr_program,show Program.stoodInHeld Proofs.Tryz.prog 47=false by kernel_rfl]
 have seq : ∀{α β:Type} (s:Sem α) (f:α→Sem β),pureRun Proofs.Tryz.prog (s >>= f)=(pureRun Proofs.Tryz.prog s).bind fun a=>pureRun Proofs.Tryz.prog (f a):=fun s f=>pureRun_seq _ f s
 have p1:=fun(n d:Nat)=>pr_part_agg (P:=Proofs.Tryz.prog) ag45 sz45 (shC n d).toArray 0
 have p2:=fun(n d:Nat)=>pr_part_agg (P:=Proofs.Tryz.prog) ag45 sz45 (shC n d).toArray 8
 have n1:("N" ≠ "_")=True:=by simp
 have n2:("D" ≠ "_")=True:=by simp
 simp only[Bool.false_eq_true,if_false,←Array.forIn_toList,List.forIn_cons,List.forIn_nil,seq,n1,n2,if_true,p1,Option.bind_some,Nat.zero_add,sh_ext1,wd_equalIn h1 h3]
 by_cases e1:n=n'
 ·simp only[decide_eq_true e1,Bool.not_true,Bool.false_eq_true,if_false,pr_pure,Option.bind_some,seq,p2,show(8+8:Nat)=16 from rfl,sh_ext2,wd_equalIn h2 h4]
  by_cases e2:d=d'
  ·simp only[decide_eq_true e2,Bool.not_true,Bool.false_eq_true,if_false,pr_pure,Option.bind_some]
   rw[decide_eq_true (And.intro e1 e2)]
  ·simp only[decide_eq_false e2,Bool.not_false,if_true,pr_pure,Option.bind_some]
   rw[decide_eq_false (fun h=>e2 h.2)]
 ·simp only[decide_eq_false e1,Bool.not_false,if_true,pr_pure,Option.bind_some]
  rw[decide_eq_false (fun h=>e1 h.1)]
theorem sh_plain (n d:Nat):plain (.agg (shC n d).toArray)=true:=by
 simp only[plain,shC,wdC]
 simp[scal]
end Go.Id

/-! Contracts: package divisor: Post, ranks, Above, Rank. -/
namespace Go.Id
open Go
theorem qw_small {n d:Int} (hn:n.natAbs≤9223372036854775807) (hd:d.natAbs≤9223372036854775807) (d0:d≠0):QW (Rat.divInt n d):=qw_div ⟨by omega,by omega⟩ ⟨by omega,by omega⟩ d0
def postQ (m s:Nat):Rat:=Rat.divInt (postN m s) (postD m s)
theorem postQ_qw {m s:Nat} (h:s≤1000):QW (postQ m s) :=
 qw_small (by have:=postN_le (m:=m) h;omega) (by have:=postD_le (m:=m) h;omega) (by have:=postD_pos m s;omega)
def postErr (m s:Int):Bool:=!(inR 11 15 [m] && inR 0 1000 [s])
theorem postErr_no {m s:Int} (h:postErr m s=false) : ∃a b:Nat,m=a∧s=b∧(11≤a∧a≤15)∧b≤1000:=by
 unfold postErr at h
 rw[Bool.not_eq_false',Bool.and_eq_true,inR_iff,inR_iff] at h
 have h1:=h.1 m (by simp)
 have h2:=h.2 s (by simp)
 exact⟨m.toNat,s.toNat,by omega,by omega,⟨by omega,by omega⟩,by omega⟩
def postZ (m s:Nat):Bool:=postN m s == 0
def rankQ (m p s:Nat):Rat:=Rat.divInt ((if m=13 then p*p else p:Nat):Int) (postN m s)*Rat.divInt (postD m s) 1
def rankC (m p s:Nat):List Value:=if postZ m s=true then .bool true :: shC (shq (Rat.divInt p 1)).1 (shq (Rat.divInt p 1)).2 else .bool false :: shC (shq (rankQ m p s)).1 (shq (rankQ m p s)).2
def rankV (m p s:Nat):Value:=.agg (rankC m p s).toArray
theorem mulSelf_le {p:Nat} (h:p≤1000000000):p*p≤1000000000000000000:=Nat.mul_le_mul h h
theorem powSq {k a:Nat} (h:k≤a+a):(2:Nat) ^ k≤2 ^ a*2 ^ a:=by
 rw[←Nat.pow_add]
 exact Nat.pow_le_pow_right (by omega) h
theorem qw_bits {k:Nat} {q:Rat} (h:QB k q) (hk:k≤510):QW q:=by
 have e:(2:Nat) ^ 255*2 ^ 255<H8:=by unfold H8;decide +kernel
 have h1:(2:Nat) ^ k≤2 ^ 255*2 ^ 255:=powSq (a:=255) (by omega)
 obtain⟨a,b⟩:=h
 generalize (2:Nat) ^ 255*2 ^ 255=y at *
 generalize (2:Nat) ^ k=x at *
 unfold QW InW
 omega
theorem bits70 {n:Nat} (h:n≤1000000000000000000):((n:Nat):Int).natAbs≤2 ^ 60:=by
 have e:(1000000000000000000:Nat)≤2 ^ 60:=by decide
 rw[Int.natAbs_natCast];exact Nat.le_trans h e
theorem rankQ_bits {m p s:Nat} (hp:p≤1000000000) (hs:s≤1000) (h0:postN m s≠0):QB 60 (Rat.divInt ((if m=13 then p*p else p:Nat):Int) (postN m s))∧QB 60 (Rat.divInt (postD m s) 1):=by
 have hq:=mulSelf_le hp
 have hd:=postD_le (m:=m) hs
 have hn:=postN_le (m:=m) hs
 have ht:(if m=13 then p*p else p:Nat)≤1000000000000000000:=by split<;>omega
 exact⟨QB.divInt (by omega) (bits70 ht) (bits70 (by omega)),QB.divInt (by omega) (bits70 (by omega)) (bits70 (n:=1) (by omega))⟩
theorem rankQ_qw {m p s:Nat} (hp:p≤1000000000) (hs:s≤1000) (h0:postN m s≠0):QW (rankQ m p s):=by
 obtain⟨a,b⟩:=rankQ_bits (m:=m) hp hs h0
 exact qw_bits (QB.mul a b) (by omega)
theorem rk_len (b:Bool) (n d:Nat):(Value.bool b :: shC n d).length=17:=by rw[List.length_cons,shC_len]
theorem rk_take (b:Bool) (n d:Nat):List.take 17 (List.drop 0 (Value.bool b :: shC n d))=.bool b :: shC n d:=by rw[List.drop_zero,List.take_of_length_le (by rw[rk_len];omega)]
theorem boxed (h:IH) (a b:List Value) : ∃H,H=(h.new (.cells a 0 none)).put h.n (.cells b 0 none)∧H.n=h.n+1∧Ext h H∧H.ext.get h.n=some (.cells b 0 none) :=
 ⟨_,rfl,by simp,((Ext.refl h).new _).put (by omega) _,by simp (disch:=first|omega|(simp only[new_n,put_n];omega)|(repeat first|rw[new_n]|rw[put_n])) only[get_put_same]⟩
set_option maxHeartbeats 2000000 in
theorem ranked_ok {h:IH} {m p s:Nat} (hm:11≤m∧m≤15) (hp:p≤1000000000) (hs:s≤1000) :
  WV Proofs.Tryz.prog (.func (.func 73) #[] #[]) [KN m,KN p,KN s] h fun r h'=>Ext h h'∧r=rankV m p s:=by
 have hn:=postN_le (m:=m) hs
 have hd:=postD_le (m:=m) hs
 have hd0:=postD_pos m s
 refine enter (nt:=58) (rs:=[.cell 6 115]) Proofs.Tryz.func73 rfl rfl rfl (by simp) ?_
 simp -dsimp (disch:=omega) only[wpS,Nat.reduceEqDiff,Nat.reduceAdd,zc115]
 obtain⟨H0,hH0⟩ : ∃H,H=h.new (.cells (.bool false :: Z16) 0 none):=⟨_,rfl⟩
 have E1:Ext h H0:=by rw[hH0];exact(Ext.refl h).new _
 have g0:H0.ext.get h.n=some (.cells (.bool false :: Z16) 0 none):=by rw[hH0];simp (disch:=first|omega|(simp only[new_n,put_n];omega)|(repeat first|rw[new_n]|rw[put_n])) only[get_new_same]
 have n0:H0.n=h.n+1:=by rw[hH0];simp
 rw[←hH0]
 clear hH0
 refine call (post_ok hm hs) ?_
 rintro _ h1 ⟨X1,rfl⟩
 have m1:=X1.n
 by_cases c:postN m s=0
 ·have c1:(((postN m s:Nat):Int) == 0)=true:=by rw[c];rfl
  have hz:postZ m s=true:=by unfold postZ;rw[c];rfl
  simp -dsimp (disch:=omega) only[wpS,Nat.reduceEqDiff,c1]
  refine call (shof_ok p 1 ⟨by omega,by omega⟩ ⟨by omega,by omega⟩ (by omega)) ?_
  rintro _ h2 ⟨X2,rfl⟩
  rw[shareV_shq]
  have Y2:=X1.trans X2
  have m2:=Y2.n
  have k2:=Y2.kept (by omega) g0
  simp -dsimp (disch:=omega) only[wpS,wpT,Nat.reduceEqDiff,Nat.reduceLeDiff,Nat.reduceAdd,zc47,st47,ld47,bv115,pl115_0,pl115_1,st115,ld115,k2,shV_cells,shC_len,shC_all,sh_sp3,sh_take,rk_take]
  refine⟨(((E1.trans Y2).new _).put (by omega) _).put (by omega) _,?_⟩
  unfold rankV rankC
  rw[if_pos hz]
 ·have c1:(((postN m s:Nat):Int) == 0)=false:=by rw[beq_eq_false_iff_ne];omega
  have hz:postZ m s=false:=by unfold postZ;rw[beq_eq_false_iff_ne];exact c
  have hq:=mulSelf_le hp
  have hw:=rankQ_qw (m:=m) hp hs c
  have ht:(if m=13 then p*p else p:Nat)≤1000000000000000000:=by split<;>omega
  obtain⟨t,hte⟩ : ∃t,t=(if m=13 then p*p else p:Nat):=⟨_,rfl⟩
  obtain⟨b1,b2⟩:=rankQ_bits (m:=m) hp hs c
  rw[←hte] at ht b1
  have w1:=qw_bits b1 (by omega)
  have w2:=qw_bits b2 (by omega)
  have hqe:Rat.divInt t (postN m s)*Rat.divInt (postD m s) 1=rankQ m p s:=by unfold rankQ;rw[hte]
  by_cases c3:m=13
  ·have c4:(((m:Nat):Int) == 13)=true:=by rw[c3];rfl
   have e1:IntKind.i64.wrap ((p:Int)*(p:Int))=(t:Int):=by rw[hte,if_pos c3,←Int.natCast_mul,wrap_i64 (by omega)]
   simp -dsimp (disch:=omega) only[wpS,Nat.reduceEqDiff,c1,c4,e1]
   refine call (shof_ok t (postN m s) ⟨by omega,by omega⟩ ⟨by omega,by omega⟩ (by omega)) ?_
   rintro _ h2 ⟨X2,rfl⟩
   rw[shareV_shq]
   simp -dsimp (disch:=omega) only[wpS,wpT,Nat.reduceEqDiff,Nat.reduceLeDiff,Nat.reduceAdd,zc47,st47,shV_cells,shC_len,shC_all,sh_sp3]
   obtain⟨H2,hH2,n2,E2,g2⟩:=boxed h2 Z16 (shC (shq (Rat.divInt t (postN m s))).1 (shq (Rat.divInt t (postN m s))).2)
   rw[←hH2]
   clear hH2
   refine call (shof_ok (postD m s) 1 ⟨by omega,by omega⟩ ⟨by omega,by omega⟩ (by omega)) ?_
   rintro _ h3 ⟨X3,rfl⟩
   rw[shareV_shq]
   simp -dsimp (disch:=omega) only[wpS,wpT,Nat.reduceEqDiff,Nat.reduceLeDiff,Nat.reduceAdd,zc47,st47,ld47,shV_cells,shC_len,shC_all,sh_sp3]
   obtain⟨H3,hH3,n3,E3,g3⟩:=boxed h3 Z16 (shC (shq (Rat.divInt (postD m s) 1)).1 (shq (Rat.divInt (postD m s) 1)).2)
   rw[←hH3]
   clear hH3
   have m2:=X2.n
   have m3:=X3.n
   have k2:=(X3.trans E3).kept (by omega) g2
   simp -dsimp (disch:=omega) only[wpS,Nat.reduceEqDiff,Nat.reduceLeDiff,ld47,row_of k2,row_of g3,shC_len,sh_take]
   refine call (shmul_ok (p1:=shq (Rat.divInt t (postN m s))) (p2:=shq (Rat.divInt (postD m s) 1)) (shq_lt w1) (shq_lt w2) (shq_rOf w1).2 (shq_rOf w2).2) ?_
   rintro _ h4 ⟨X4,rfl⟩
   have m4:=X4.n
   have Y4:=X1.trans (X2.trans (E2.trans (X3.trans (E3.trans X4))))
   have k0:=Y4.kept (by omega) g0
   rw[(shq_rOf w1).1,(shq_rOf w2).1,hqe,toldV_qw hw]
   have mY:=Y4.n
   simp -dsimp (disch:=omega) only[wpS,wpT,Nat.reduceEqDiff,Nat.reduceLeDiff,Nat.reduceAdd,zc47,st47,ld47,bv115,pl115_0,pl115_1,st115,ld115,k0,shV_cells,shC_len,shC_all,sh_sp3,sh_take,rk_take]
   refine⟨(((E1.trans Y4).new _).put (by omega) _).put (by omega) _,?_⟩
   unfold rankV rankC
   rw[if_neg (by rw[hz];simp)]
  ·have c4:(((m:Nat):Int) == 13)=false:=by rw[beq_eq_false_iff_ne];omega
   obtain rfl:t=p:=by rw[hte,if_neg c3]
   simp -dsimp (disch:=omega) only[wpS,Nat.reduceEqDiff,c1,c4]
   refine call (shof_ok t (postN m s) ⟨by omega,by omega⟩ ⟨by omega,by omega⟩ (by omega)) ?_
   rintro _ h2 ⟨X2,rfl⟩
   rw[shareV_shq]
   simp -dsimp (disch:=omega) only[wpS,wpT,Nat.reduceEqDiff,Nat.reduceLeDiff,Nat.reduceAdd,zc47,st47,shV_cells,shC_len,shC_all,sh_sp3]
   obtain⟨H2,hH2,n2,E2,g2⟩:=boxed h2 Z16 (shC (shq (Rat.divInt t (postN m s))).1 (shq (Rat.divInt t (postN m s))).2)
   rw[←hH2]
   clear hH2
   refine call (shof_ok (postD m s) 1 ⟨by omega,by omega⟩ ⟨by omega,by omega⟩ (by omega)) ?_
   rintro _ h3 ⟨X3,rfl⟩
   rw[shareV_shq]
   simp -dsimp (disch:=omega) only[wpS,wpT,Nat.reduceEqDiff,Nat.reduceLeDiff,Nat.reduceAdd,zc47,st47,ld47,shV_cells,shC_len,shC_all,sh_sp3]
   obtain⟨H3,hH3,n3,E3,g3⟩:=boxed h3 Z16 (shC (shq (Rat.divInt (postD m s) 1)).1 (shq (Rat.divInt (postD m s) 1)).2)
   rw[←hH3]
   clear hH3
   have m2:=X2.n
   have m3:=X3.n
   have k2:=(X3.trans E3).kept (by omega) g2
   simp -dsimp (disch:=omega) only[wpS,Nat.reduceEqDiff,Nat.reduceLeDiff,ld47,row_of k2,row_of g3,shC_len,sh_take]
   refine call (shmul_ok (p1:=shq (Rat.divInt t (postN m s))) (p2:=shq (Rat.divInt (postD m s) 1)) (shq_lt w1) (shq_lt w2) (shq_rOf w1).2 (shq_rOf w2).2) ?_
   rintro _ h4 ⟨X4,rfl⟩
   have m4:=X4.n
   have Y4:=X1.trans (X2.trans (E2.trans (X3.trans (E3.trans X4))))
   have k0:=Y4.kept (by omega) g0
   rw[(shq_rOf w1).1,(shq_rOf w2).1,hqe,toldV_qw hw]
   have mY:=Y4.n
   simp -dsimp (disch:=omega) only[wpS,wpT,Nat.reduceEqDiff,Nat.reduceLeDiff,Nat.reduceAdd,zc47,st47,ld47,bv115,pl115_0,pl115_1,st115,ld115,k0,shV_cells,shC_len,shC_all,sh_sp3,sh_take,rk_take]
   refine⟨(((E1.trans Y4).new _).put (by omega) _).put (by omega) _,?_⟩
   unfold rankV rankC
   rw[if_neg (by rw[hz];simp)]
end Go.Id

/-! Structs compared, field by field. -/
namespace Go.Id
open Go
section
variable {P:Program}
theorem pr_part_scal {e:TypeId} (hA:isAggT P e=some false) {cs:Array Value} {off:Nat} {v:Value} (hv:cs[off]?=some v):pureRun P (part e cs off)=some v:=by
 unfold part
 have h1:pureRun P (isAgg e)=some false:=by
  unfold isAgg
  simp only[isAggT,Option.map_eq_some_iff] at hA
  obtain⟨d,hd,hA⟩:=hA
  rw[pr_bind (pr_underlying hd)]
  cases d<;>first|rfl|(simp at hA)
 rw[pr_bind h1]
 simp only[Bool.false_eq_true,if_false,hv]
 rfl
theorem pr_equal_bool {e:TypeId} (he:P.underlying e=some .bool) (d:Nat) (a b:Bool):pureRun P (Op.equalIn (d+1) e (.bool a) (.bool b))=some (a == b):=by
 unfold Op.equalIn
 rw[pr_bind (pr_underlying he)]
 rfl
theorem pr_fields (body:Field→Option Bool×Unit→Sem (ForInStep (Option Bool×Unit))) (g:Option Bool×Unit→Sem Bool) (e:Field→Bool) : ∀fs:List Field,
  (∀f∈fs,∀r,pureRun P (body f r)=some (if e f=true then .yield (none,()) else .done (some false,()))) →
  pureRun P (forIn fs ((none,()):Option Bool×Unit) body >>= g)=pureRun P (g (if fs.all e=true then (none,()) else (some false,()))):=by
 have assoc : ∀(s:Sem (ForInStep (Option Bool×Unit))) (g1:ForInStep (Option Bool×Unit)→Sem (Option Bool×Unit)) (f2:Option Bool×Unit→Sem Bool),pureRun P ((s >>= g1) >>= f2)=pureRun P (s >>= fun x=>g1 x >>= f2):=fun s g1 f2=>by
  show pureRun P ((s.bind g1).bind f2)=pureRun P (s.bind fun x=>(g1 x).bind f2)
  rw[pureRun_seq,pureRun_seq,pureRun_seq]
  cases pureRun P s with
  | none=>rfl
  | some a=>simp only[Option.bind_some];rw[pureRun_seq]
 intro fs
 induction fs with
 | nil=>intro _;rfl
 | cons f fs ih =>
  intro hi
  have h1:=hi f (by simp) (none,())
  rw[List.forIn_cons,assoc,pr_bind h1,List.all_cons]
  cases hc:e f with
  | true =>
   rw[Bool.true_and,←ih fun j hj=>hi j (by simp[hj])]
   rfl
  | false =>
   rw[Bool.false_and]
   rfl
theorem pr_equal_struct {t:TypeId} {fs:Array Field} (hT:P.underlying t=some (.struct fs)) (hs:P.stoodInHeld t=false) (d:Nat) (xs ys:Array Value) (e:Field→Bool)
  (h : ∀f∈fs.toList,f.name ≠ "_" ∧ ∃a b,pureRun P (part f.type xs f.offset)=some a∧pureRun P (part f.type ys f.offset)=some b∧pureRun P (Op.equalIn d f.type a b)=some (e f)) :
  pureRun P (Op.equalIn (d+1) t (.agg xs) (.agg ys))=some (fs.toList.all e):=by
 unfold Op.equalIn
 rw[pr_bind (pr_underlying hT)]
 simp only
 rw[pr_bind (show pureRun P program=some P from rfl),hs]
 simp only[Bool.false_eq_true,if_false]
 rw[←Array.forIn_toList]
 rw[pr_fields _ _ e fs.toList]
 ·cases fs.toList.all e<;>rfl
 ·intro f hf r
  obtain⟨hn,a,b,h1,h2,h3⟩:=h f hf
  simp only[hn,ne_eq,not_false_eq_true,if_true]
  rw[pr_bind h1,pr_bind h2,pr_bind h3]
  cases e f<;>rfl
end
end Go.Id

/-! Contracts: package divisor: ranks compared, Above, Rank. -/
namespace Go.Id
open Go
def cmpQ (x y:Rat):Int:=if x<y then -1 else if x=y then 0 else 1
def cmpR (b1:Bool) (x:Rat) (b2:Bool) (y:Rat):Int:=if b1 && !b2 then 1 else if b2 && !b1 then -1 else cmpQ x y
theorem cmpQ_self (x:Rat):cmpQ x x=0:=by
 unfold cmpQ
 rw[if_neg (Rat.lt_irrefl),if_pos rfl]
theorem shq_inj' {x y:Rat} (hx:QW x) (hy:QW y) (h1:(shq x).1=(shq y).1) (h2:(shq x).2=(shq y).2):x=y:=by
 rw[←(shq_rOf hx).1,←(shq_rOf hy).1]
 unfold rOf
 rw[h1,h2]
abbrev rkV (b:Bool) (x:Rat):Value:=.agg (Value.bool b :: shC (shq x).1 (shq x).2).toArray
theorem rk_ext (b:Bool) (n d:Nat):((Value.bool b :: shC n d).toArray).extract 1 (1+16)=(shC n d).toArray:=by
 simp only[List.extract_toArray,List.extract_eq_take_drop]
 rw[show(1+16 - 1)=16 from rfl,List.drop_one,List.tail_cons,List.take_of_length_le (by rw[shC_len];omega)]
theorem rk_eql {b1 b2:Bool} {x y:Rat} (hx:QW x) (hy:QW y) (ox oy:Operand):binop Proofs.Tryz.prog .eql 115 ox oy (rkV b1 x) (rkV b2 y)=some (.bool (decide (b1=b2∧x=y))):=by
 have hp : ∀(b:Bool) (x:Rat),plain (rkV b x)=true:=fun b x=>by
  have:=sh_plain (shq x).1 (shq x).2
  simp only[plain,List.all_toArray,List.all_cons] at this ⊢
  rw[this];rfl
 refine binop_eql_gen (by kernel_rfl) (hp _ _) (hp _ _) ?_ ox oy
 have hx1:=shq_lt hx
 have hy1:=shq_lt hy
 have key:=pr_equal_struct (P:=Proofs.Tryz.prog) u115 (by kernel_rfl) 9999 (Value.bool b1 :: shC (shq x).1 (shq x).2).toArray (Value.bool b2 :: shC (shq y).1 (shq y).2).toArray (fun f=>if f.name = "endless" then b1 == b2 else decide ((shq x).1=(shq y).1∧(shq x).2=(shq y).2)) (by
  intro f hf
  simp only[List.mem_cons,List.not_mem_nil,or_false] at hf
  rcases hf with rfl|rfl
  ·exact⟨by decide,.bool b1,.bool b2,pr_part_scal ag4 rfl,pr_part_scal ag4 rfl,pr_equal_bool u4 _ _ _⟩
  ·exact⟨by decide,.agg (shC (shq x).1 (shq x).2).toArray,.agg (shC (shq y).1 (shq y).2).toArray,
    (pr_part_agg ag47 sz47 _ 1).trans (by rw[rk_ext]),(pr_part_agg ag47 sz47 _ 1).trans (by rw[rk_ext]),sh_equalIn hx1.1 hx1.2 hy1.1 hy1.2 9996⟩)
 refine key.trans (congrArg some ?_)
 simp only[List.all_cons,List.all_nil,Bool.and_true,if_true]
 rw[if_neg (by decide)]
 rw[Bool.eq_iff_iff]
 simp only[Bool.and_eq_true,beq_iff_eq,decide_eq_true_eq]
 constructor
 ·rintro⟨h1,h2,h3⟩;exact⟨h1,shq_inj' hx hy h2 h3⟩
 ·rintro⟨h1,rfl⟩;exact⟨h1,rfl,rfl⟩
theorem rk_take1 (b:Bool) (n d:Nat):List.take 16 (List.drop 1 (Value.bool b :: shC n d))=shC n d:=by rw[List.drop_one,List.tail_cons,List.take_of_length_le (by rw[shC_len];omega)]
theorem cmpQ_rOf {x y:Rat} (hx:QW x) (hy:QW y):(if rOf (shq x)<rOf (shq y) then (-1:Int) else if rOf (shq x)=rOf (shq y) then 0 else 1)=cmpQ x y:=by rw[(shq_rOf hx).1,(shq_rOf hy).1];rfl
set_option maxHeartbeats 2000000 in
theorem rkCmp_ok {h:IH} {b1 b2:Bool} {x y:Rat} (hx:QW x) (hy:QW y):WV Proofs.Tryz.prog (.func (.func 74) #[] #[]) [rkV b1 x,rkV b2 y] h fun r h'=>Ext h h'∧r=KI (cmpR b1 x b2 y):=by
 have he:=fun ox oy=>rk_eql (b1:=b1) (b2:=b2) hx hy ox oy
 refine enter (nt:=36) (rs:=[.tmp 4]) Proofs.Tryz.func74 rfl rfl rfl (by simp) ?_
 simp -dsimp (maxSteps:=1000000) (disch:=first|omega|(simp only[new_n,put_n];omega)|decide +kernel|(repeat first|rw[new_n]|rw[put_n])) only[wpS,wpT,Nat.reduceEqDiff,Nat.reduceLeDiff,Nat.reduceAdd,ld115]
 obtain⟨H0,hH0,n0,E0,g0,g1⟩:=boxes2 h (Value.bool b1 :: shC (shq x).1 (shq x).2) (Value.bool b2 :: shC (shq y).1 (shq y).2)
 rw[←hH0]
 clear hH0
 by_cases c:b1=b2∧x=y
 ·rw[decide_eq_true c] at he
  obtain⟨rfl,rfl⟩:=c
  simp -dsimp (maxSteps:=1000000) (disch:=first|omega|(simp only[new_n,put_n];omega)|decide +kernel|(repeat first|rw[new_n]|rw[put_n])) only[wpS,wpT,Nat.reduceEqDiff,Nat.reduceLeDiff,Nat.reduceAdd,ld115,row_of g1,rk_take,shC_len,he]
  refine⟨E0,?_⟩
  unfold cmpR
  rw[cmpQ_self]
  cases b1<;>rfl
 ·rw[decide_eq_false c] at he
  clear c
  cases b1<;>cases b2
  ·simp -dsimp (maxSteps:=1000000) (disch:=first|omega|(simp only[new_n,put_n];omega)|decide +kernel|(repeat first|rw[new_n]|rw[put_n])) only[wpS,wpT,Nat.reduceEqDiff,Nat.reduceLeDiff,Nat.reduceAdd,ld115,fa115_0,ld4,fa115_1,ld47,row_of g0,row_of g1,rk_take,shC_len,he,rk_take1]
   refine call (shcmp_ok (shq_lt hx) (shq_lt hy) (shq_rOf hx).2 (shq_rOf hy).2) ?_
   rintro _ h1 ⟨X1,rfl⟩
   rw[cmpQ_rOf hx hy]
   simp -dsimp (maxSteps:=1000000) (disch:=first|omega|(simp only[new_n,put_n];omega)|decide +kernel|(repeat first|rw[new_n]|rw[put_n])) only[wpS,Nat.reduceEqDiff]
   exact⟨E0.trans X1,rfl⟩
  ·simp -dsimp (maxSteps:=1000000) (disch:=first|omega|(simp only[new_n,put_n];omega)|decide +kernel|(repeat first|rw[new_n]|rw[put_n])) only[wpS,wpT,Nat.reduceEqDiff,Nat.reduceLeDiff,Nat.reduceAdd,ld115,fa115_0,ld4,row_of g0,row_of g1,rk_take,shC_len,he]
   exact⟨E0,rfl⟩
  ·simp -dsimp (maxSteps:=1000000) (disch:=first|omega|(simp only[new_n,put_n];omega)|decide +kernel|(repeat first|rw[new_n]|rw[put_n])) only[wpS,wpT,Nat.reduceEqDiff,Nat.reduceLeDiff,Nat.reduceAdd,ld115,fa115_0,ld4,row_of g0,row_of g1,rk_take,shC_len,he]
   exact⟨E0,rfl⟩
  ·simp -dsimp (maxSteps:=1000000) (disch:=first|omega|(simp only[new_n,put_n];omega)|decide +kernel|(repeat first|rw[new_n]|rw[put_n])) only[wpS,wpT,Nat.reduceEqDiff,Nat.reduceLeDiff,Nat.reduceAdd,ld115,fa115_0,ld4,fa115_1,ld47,row_of g0,row_of g1,rk_take,shC_len,he,rk_take1]
   refine call (shcmp_ok (shq_lt hx) (shq_lt hy) (shq_rOf hx).2 (shq_rOf hy).2) ?_
   rintro _ h1 ⟨X1,rfl⟩
   rw[cmpQ_rOf hx hy]
   simp -dsimp (maxSteps:=1000000) (disch:=first|omega|(simp only[new_n,put_n];omega)|decide +kernel|(repeat first|rw[new_n]|rw[put_n])) only[wpS,Nat.reduceEqDiff]
   exact⟨E0.trans X1,rfl⟩
def rankX (m p s:Nat):Rat:=if postZ m s=true then Rat.divInt p 1 else rankQ m p s
theorem rankX_qw {m p s:Nat} (hp:p≤1000000000) (hs:s≤1000):QW (rankX m p s):=by
 unfold rankX
 by_cases c:postZ m s=true
 ·rw[if_pos c];exact qw_small (by omega) (by omega) (by omega)
 ·rw[if_neg c];exact rankQ_qw hp hs (fun e=>c (by unfold postZ;rw[e];rfl))
theorem rankV_eq (m p s:Nat):rankV m p s=rkV (postZ m s) (rankX m p s):=by
 unfold rankV rankC rankX rkV
 cases postZ m s<;>rfl
def cmpRank (m p s q t:Nat):Int:=cmpR (postZ m s) (rankX m p s) (postZ m t) (rankX m q t)
def aboveErr (m p s q t:Int):Bool:=!(inR 11 15 [m] && inR 0 1000 [s,t]) || !(inR 1 1000000000 [p,q])
set_option maxHeartbeats 2000000 in
theorem above_ok {h:IH} (m p s q t:Int):WV Proofs.Tryz.prog (.func (.func 32) #[] #[]) [KI m,KI p,KI s,KI q,KI t] h fun r h'=>Ext h h'∧r=if aboveErr m p s q t=true then .tuple #[KI 0,KI 2] else .tuple #[KI (cmpRank m.toNat p.toNat s.toNat q.toNat t.toNat),KI 0]:=by
 refine enter (nt:=34) (rs:=[.tmp 10,.tmp 11]) Proofs.Tryz.func32 rfl rfl rfl (by simp) ?_
 simp -dsimp (disch:=omega) only[wpS,wpT,Nat.reduceEqDiff,Nat.reduceLeDiff,Nat.reduceAdd,Nat.reduceMul,bs29]
 have X0:Ext h (h.new (.cells [KI s,KI t] 1 none)):=(Ext.refl h).new _
 refine call (known_ok (l:=[s,t]) m (built2 h s t) (by simp)) ?_
 rintro _ h1 ⟨Y1,rfl⟩
 have X1:=X0.trans Y1
 cases c1:(inR 11 15 [m] && inR 0 1000 [s,t])
 ·have e:aboveErr m p s q t=true:=by unfold aboveErr;rw[c1];rfl
  simp -dsimp (disch:=omega) only[wpS,wpT,Nat.reduceEqDiff]
  exact⟨X1,by rw[if_pos e]⟩
 ·simp -dsimp (disch:=omega) only[wpS,wpT,Nat.reduceEqDiff,Nat.reduceLeDiff,Nat.reduceAdd,Nat.reduceMul,bs29]
  have X2:Ext h (h1.new (.cells [KI p,KI q] 1 none)):=X1.new _
  refine call (within_ok (l:=[p,q]) 1 1000000000 (built2 h1 p q) (by simp)) ?_
  rintro _ h2 ⟨Y2,rfl⟩
  have X3:=X2.trans Y2
  cases c2:inR 1 1000000000 [p,q]
  ·have e:aboveErr m p s q t=true:=by unfold aboveErr;rw[c1,c2];rfl
   simp -dsimp (disch:=omega) only[wpS,wpT,Nat.reduceEqDiff]
   exact⟨X3,by rw[if_pos e]⟩
  ·have e:aboveErr m p s q t=false:=by unfold aboveErr;rw[c1,c2];rfl
   rw[Bool.and_eq_true,inR_iff,inR_iff] at c1
   rw[inR_iff] at c2
   have a1:=c1.1 m (by simp)
   have a2:=c1.2 s (by simp)
   have a3:=c1.2 t (by simp)
   have a4:=c2 p (by simp)
   have a5:=c2 q (by simp)
   obtain⟨m',rfl⟩ : ∃k:Nat,m=k:=⟨m.toNat,by omega⟩
   obtain⟨p',rfl⟩ : ∃k:Nat,p=k:=⟨p.toNat,by omega⟩
   obtain⟨s',rfl⟩ : ∃k:Nat,s=k:=⟨s.toNat,by omega⟩
   obtain⟨q',rfl⟩ : ∃k:Nat,q=k:=⟨q.toNat,by omega⟩
   obtain⟨t',rfl⟩ : ∃k:Nat,t=k:=⟨t.toNat,by omega⟩
   simp -dsimp (disch:=omega) only[wpS,wpT,Nat.reduceEqDiff]
   refine call (ranked_ok (m:=m') (p:=p') (s:=s') (by omega) (by omega) (by omega)) ?_
   rintro _ h3 ⟨Y3,rfl⟩
   simp -dsimp (disch:=omega) only[wpS,Nat.reduceEqDiff]
   refine call (ranked_ok (m:=m') (p:=q') (s:=t') (by omega) (by omega) (by omega)) ?_
   rintro _ h4 ⟨Y4,rfl⟩
   rw[rankV_eq,rankV_eq]
   simp -dsimp (disch:=omega) only[wpS,Nat.reduceEqDiff]
   refine call (rkCmp_ok (rankX_qw (by omega) (by omega)) (rankX_qw (by omega) (by omega))) ?_
   rintro _ h5 ⟨Y5,rfl⟩
   simp -dsimp (disch:=omega) only[wpS,Nat.reduceEqDiff]
   refine⟨X3.trans (Y3.trans (Y4.trans Y5)),?_⟩
   rw[if_neg (by rw[e];simp)]
   rfl
def rankErr (m p s:Int):Int:=if (!(inR 11 15 [m] && inR 0 1000 [s]) || !(inR 0 1000000000 [p]))=true then 2 else if postZ m.toNat s.toNat=true then 7 else 0
def rankW (m p s:Nat):Value:=shV (shq (rankQ m p s)).1 (shq (rankQ m p s)).2
end Go.Id

/-! Contracts: package divisor: Rank; package quota: Check; package bracket: within. -/
namespace Go.Id
open Go
set_option maxHeartbeats 2000000 in
theorem dRank_ok {h:IH} (m p s:Int):WV Proofs.Tryz.prog (.func (.func 114) #[] #[]) [KI m,KI p,KI s] h fun r h'=>Ext h h'∧r=if rankErr m p s=0 then .tuple #[rankW m.toNat p.toNat s.toNat,KI 0] else .tuple #[shV 0 0,KI (rankErr m p s)]:=by
 refine enter (nt:=30) (rs:=[.cell 6 47,.tmp 7]) Proofs.Tryz.func114 rfl rfl rfl (by simp) ?_
 simp -dsimp (disch:=omega) only[wpS,wpT,Nat.reduceEqDiff,Nat.reduceLeDiff,Nat.reduceAdd,zc47,bs29]
 obtain⟨H0,hH0⟩ : ∃H,H=h.new (.cells Z16 0 none):=⟨_,rfl⟩
 have E1:Ext h H0:=by rw[hH0];exact(Ext.refl h).new _
 have g0:H0.ext.get h.n=some (.cells Z16 0 none):=by rw[hH0];simp (disch:=first|omega|(simp only[new_n,put_n];omega)|(repeat first|rw[new_n]|rw[put_n])) only[get_new_same]
 have n0:H0.n=h.n+1:=by rw[hH0];simp
 rw[←n0,←hH0]
 clear hH0
 have X0:Ext H0 (H0.new (.cells [KI s] 1 none)):=(Ext.refl H0).new _
 refine call (known_ok (l:=[s]) m (built1 H0 s) (by simp)) ?_
 rintro _ h1 ⟨Y1,rfl⟩
 have X1:=X0.trans Y1
 have m1:=X1.n
 have kg:=X1.kept (by omega) g0
 cases c1:(inR 11 15 [m] && inR 0 1000 [s])
 ·have e:rankErr m p s=2:=by unfold rankErr;rw[c1];rfl
  simp -dsimp (disch:=omega) only[wpS,wpT,Nat.reduceEqDiff,Nat.reduceLeDiff,Nat.reduceAdd,bv47,st47,ld47,kg]
  refine⟨(E1.trans X1).put (by omega) _,?_⟩
  rw[e,if_neg (by omega),←sh_zeroV];rfl
 ·simp -dsimp (disch:=omega) only[wpS,wpT,Nat.reduceEqDiff,Nat.reduceLeDiff,Nat.reduceAdd,bs29]
  have X2:Ext H0 (h1.new (.cells [KI p] 1 none)):=X1.new _
  refine call (within_ok (l:=[p]) 0 1000000000 (built1 h1 p) (by simp)) ?_
  rintro _ h2 ⟨Y2,rfl⟩
  have X3:=X2.trans Y2
  have m3:=X3.n
  have kg3:=X3.kept (by omega) g0
  cases c2:inR 0 1000000000 [p]
  ·have e:rankErr m p s=2:=by unfold rankErr;rw[c1,c2];rfl
   simp -dsimp (disch:=omega) only[wpS,wpT,Nat.reduceEqDiff,Nat.reduceLeDiff,Nat.reduceAdd,bv47,st47,ld47,kg3]
   refine⟨(E1.trans X3).put (by omega) _,?_⟩
   rw[e,if_neg (by omega),←sh_zeroV];rfl
  ·have e0:rankErr m p s=if postZ m.toNat s.toNat=true then 7 else 0:=by unfold rankErr;rw[c1,c2];rfl
   rw[Bool.and_eq_true,inR_iff,inR_iff] at c1
   rw[inR_iff] at c2
   have a1:=c1.1 m (by simp)
   have a2:=c1.2 s (by simp)
   have a4:=c2 p (by simp)
   obtain⟨m',rfl⟩ : ∃k:Nat,m=k:=⟨m.toNat,by omega⟩
   obtain⟨p',rfl⟩ : ∃k:Nat,p=k:=⟨p.toNat,by omega⟩
   obtain⟨s',rfl⟩ : ∃k:Nat,s=k:=⟨s.toNat,by omega⟩
   have e0:rankErr m' p' s'=if postZ m' s'=true then 7 else 0:=e0
   rw[Int.toNat_natCast,Int.toNat_natCast,Int.toNat_natCast]
   simp -dsimp (disch:=omega) only[wpS,wpT,Nat.reduceEqDiff]
   refine call (ranked_ok (m:=m') (p:=p') (s:=s') (by omega) (by omega) (by omega)) ?_
   rintro _ h3 ⟨Y3,rfl⟩
   rw[rankV_eq]
   simp -dsimp (disch:=omega) only[wpS,wpT,Nat.reduceEqDiff,Nat.reduceLeDiff,Nat.reduceAdd,zc115,st115,fa115_0,ld4,shC_len,shC_all,sh_sp3]
   obtain⟨H4,hH4,n4,E4,g4⟩:=boxed h3 (.bool false :: Z16) (Value.bool (postZ m' s') :: shC (shq (rankX m' p' s')).1 (shq (rankX m' p' s')).2)
   rw[←hH4]
   clear hH4
   have X4:=X3.trans (Y3.trans E4)
   have m4:=X4.n
   have kg4:=X4.kept (by omega) g0
   cases cz:postZ m' s'
   ·rw[if_neg (by rw[cz];simp)] at e0
    rw[cz] at g4
    have ex:rankX m' p' s'=rankQ m' p' s':=by unfold rankX;rw[cz];rfl
    simp -dsimp (disch:=omega) only[wpS,wpT,Nat.reduceEqDiff,Nat.reduceLeDiff,Nat.reduceAdd,st47,fa115_1,ld47,row_of g4,kg4,shC_len,shC_all,sh_sp3,sh_take,rk_take1]
    refine⟨(E1.trans X4).put (by omega) _,?_⟩
    rw[if_pos (by rw[e0]),ex];rfl
   ·rw[if_pos cz] at e0
    rw[cz] at g4
    simp -dsimp (disch:=omega) only[wpS,wpT,Nat.reduceEqDiff,Nat.reduceLeDiff,Nat.reduceAdd,bv47,st47,ld47,kg4]
    refine⟨(E1.trans X4).put (by omega) _,?_⟩
    rw[if_neg (by rw[e0];simp),e0,←sh_zeroV];rfl
theorem qcheck1_ok {h:IH} {n:Int}:WV Proofs.Tryz.prog (.func (.func 96) #[] #[]) [KI n] h fun r h'=>h'=h∧r=.bool (outR 0 1000000000 n):=by
 refine enter (nt:=9) (rs:=[.tmp 2]) Proofs.Tryz.func96 rfl rfl rfl (by simp) ?_
 by_cases c:n<0
 ·have d:decide (n<0)=true:=decide_eq_true c
  simp -dsimp (disch:=omega) only[wpS,wpT,Nat.reduceEqDiff,d]
  simp[outR,d]
 ·have d:decide (n<0)=false:=decide_eq_false c
  simp -dsimp (disch:=omega) only[wpS,wpT,Nat.reduceEqDiff,d]
  simp[outR,d]
theorem sum_bound : ∀(l:List Int),(∀n∈l,0≤n∧n≤1000000000)→0≤l.sum∧l.sum≤1000000000*(l.length:Int)
 | [],_=>by simp
 | a :: l,h=>by
  have h1:=sum_bound l fun n hn=>h n (by simp[hn])
  have h2:=h a (by simp)
  rw[List.sum_cons,List.length_cons]
  omega
theorem sum_take_succ (l:List Int) {i:Nat} {x:Int} (h:l[i]?=some x):(l.take (i+1)).sum=(l.take i).sum+x:=by
 rw[List.take_succ,h]
 simp
theorem qsum_ok {h:IH} {v:Value} {l:List Int} (hv:SlOf h 1 v l.length (l.map KI)) (hl:l.length≤60) (hr : ∀n∈l,0≤n∧n≤1000000000) :
  WV Proofs.Tryz.prog (.func (.func 97) #[] #[]) [v] h fun r h'=>h'=h∧r=KI l.sum:=by
 have hn:=hv.now
 refine enter (nt:=17) (rs:=[.tmp 2]) Proofs.Tryz.func97 rfl rfl rfl (by simp) ?_
 simp -dsimp (disch:=omega) only[wpS,Nat.reduceEqDiff,hn.len sl29]
 refine loop (fun m fr h1=>h1=h ∧ ∃i:Nat,i+m=l.length∧fget fr 3=some (KI (l.take i).sum)∧fget fr 6=some v∧fget fr 7=some (KI l.length)∧fget fr 8=some (KI i)) l.length ⟨rfl,0,by simp,by simp,by simp,by simp,by simp⟩ ?_
 rintro m fr h1 ⟨rfl,i,him,f3,f6,f7,f8⟩
 by_cases c:i<l.length
 ·obtain⟨x,hx⟩ : ∃x,l[i]?=some x:=⟨l[i],List.getElem?_eq_getElem c⟩
  have b1:=sum_bound (l.take i) fun n hn=>hr n (List.mem_of_mem_take hn)
  have b2:=hr x (List.mem_of_getElem? hx)
  have b3:(l.take i).length≤60:=by rw[List.length_take];omega
  have e1:IntKind.i64.wrap ((l.take i).sum+x)=(l.take (i+1)).sum:=by rw[sum_take_succ l hx,wrap_i64 (by omega)]
  have e2:IntKind.i64.wrap ((i:Int)+1)=((i+1:Nat):Int):=by rw[wrap_i64 (by omega)];omega
  simp -dsimp (disch:=omega) only[wpS,wpT,Nat.reduceEqDiff,f3,f6,f7,f8,e1,e2,hn.idx es29 c,hn.ld (P:=Proofs.Tryz.prog) (t:=3) (c:=i) (by simp<;>omega) ag3,map_get,hx]
  exact⟨m - 1,by omega,rfl,i+1,by omega,by simp,by simp[f6],by simp[f7],by simp⟩
 ·simp -dsimp (disch:=omega) only[wpS,wpT,Nat.reduceEqDiff,f3,f7,f8]
  rw[List.take_of_length_le (by omega)]
def quotaOK (l:List Int):Bool:=decide (l.length≤60) && (inR 0 1000000000 l && !(l.sum == 0))
theorem qcheck_ok {h:IH} {v:Value} {l:List Int} (hv:SlOf h 1 v l.length (l.map KI)) (hl:l.length≤1000000000) :
  WV Proofs.Tryz.prog (.func (.func 49) #[] #[]) [v] h fun r h'=>h'=h∧r=KI (if quotaOK l=true then 0 else 60):=by
 have hn:=hv.now
 refine enter (nt:=17) (rs:=[.tmp 2]) Proofs.Tryz.func49 rfl rfl rfl (by simp) ?_
 by_cases c:l.length≤60
 ·simp -dsimp (disch:=omega) only[wpS,wpT,Nat.reduceEqDiff,hn.len sl29]
  refine call (containsFunc_ok (outR 0 1000000000) hn hl (fun x hx=>qcheck1_ok)) ?_
  rintro _ _ ⟨rfl,rfl⟩
  cases c2:l.any (outR 0 1000000000)
  ·have c3:inR 0 1000000000 l=true:=by unfold inR;rw[c2];rfl
   simp -dsimp (disch:=omega) only[wpS,wpT,Nat.reduceEqDiff]
   refine call (qsum_ok hv c (inR_iff.1 c3)) ?_
   rintro _ _ ⟨rfl,rfl⟩
   cases c4:(l.sum == 0)
   ·simp -dsimp (disch:=omega) only[wpS,wpT,Nat.reduceEqDiff,c4]
    rw[if_pos (by unfold quotaOK;rw[c3,c4,decide_eq_true c];rfl)]
   ·simp -dsimp (disch:=omega) only[wpS,wpT,Nat.reduceEqDiff,c4]
    rw[if_neg (by unfold quotaOK;rw[c3,c4,decide_eq_true c];simp)]
  ·have c3:inR 0 1000000000 l=false:=by unfold inR;rw[c2];rfl
   simp -dsimp (disch:=omega) only[wpS,wpT,Nat.reduceEqDiff]
   rw[if_neg (by unfold quotaOK;rw[c3];simp)]
 ·simp -dsimp (disch:=omega) only[wpS,wpT,Nat.reduceEqDiff,hn.len sl29]
  rw[if_neg (by unfold quotaOK;rw[decide_eq_false c];simp)]
end Go.Id

/-! The first place from which a property that stays holds. -/
namespace Go.Id
open Go
end Go.Id

/-! Signposts rise; the first seat whose signpost is not below a quotient. -/
namespace Go.Id
open Go
theorem divInt_lt {a b c d:Nat} (hb:0<b) (hd:0<d) (h:a*d<c*b):Rat.divInt a b<Rat.divInt c d:=by
 have h1:(0:Rat)<((b:Int):Rat):=by exact_mod_cast hb
 have h2:(0:Rat)<((d:Int):Rat):=by exact_mod_cast hd
 have h3:((a:Int):Rat)*((d:Int):Rat)<((c:Int):Rat)*((b:Int):Rat):=by exact_mod_cast h
 rw[Rat.divInt_eq_div,Rat.divInt_eq_div,Rat.div_lt_iff h1,show((c:Int):Rat) / ((d:Int):Rat)*((b:Int):Rat)=((c:Int):Rat)*((b:Int):Rat) / ((d:Int):Rat) from by rw[Rat.div_def,Rat.div_def,Rat.mul_assoc,Rat.mul_comm ((d:Int):Rat)⁻¹,←Rat.mul_assoc],Rat.lt_div_iff h2]
 exact h3
end Go.Id

/-! Contracts: sort.Search; the search for a signpost. -/
namespace Go.Id
open Go
end Go.Id
