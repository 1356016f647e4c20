/-
  The ideal machine written for the kernel, third part: regions, code, calls.
-/
import Derived.Test.YtnnmjocmapilaaaGreatOutlierRisesAr
set_option linter.unusedVariables false
set_option linter.unusedSimpArgs false
set_option linter.defProp false
set_option linter.deprecated false
namespace Go.Id
open Go
noncomputable section
def Ln (ops:List Oper) (g:Nat×Bool) (fr:Fr):Option Bool:=bO ((ops[g.1]?).bind (·.dst)) fun d=>bO (vX fr d) fun v=>match v with
 | .bool b=>some (b == g.2)
 | .tuple _=>some false
 | _=>none
theorem Gv (ops:List Oper) (o:Oper) (j:Nat) (w:Bool) (fr:Fr) (hg:o.guard=some (j,w)):Ln ops (j,w) fr=bE ops o fr:=by
 unfold Ln bE
 rw[hg]
 simp only[oW]
 cases(ops[j]?).bind (·.dst) with
 | none=>rfl
 | some d =>
  simp only[a8]
  cases ab fr d with
  | none=>rfl
  | some v=>cases v<;>rfl
def stepG (E:Env) (call:bU) (nt:Nat) (o:Oper) (fr:Fr) (h:IH):Option (Fr×IH):=bO (XU o.op E call fr h) (Prod.rec fun v h=>bO (Rg nt fr o.dst v) fun fr=>some (fr,h))
def Cq (E:Env) (call:bU) (nt:Nat) (ops:List Oper) (o:Oper) (fr:Fr) (h:IH):Option (Fr×IH) :=
 Option.rec (motive:=fun _=>Option (Fr×IH)) (stepG E call nt o fr h) (fun g=>bO (Ln ops g fr) fun w=>iB w (stepG E call nt o fr h) (bO (Rg nt fr o.dst undef) fun fr=>some (fr,h))) o.guard
def GK (E:Env) (call:bU) (nt:Nat) (o:Oper) (fr:Fr) (h:IH):stepG E call nt o fr h=match dh E call fr o.op h with
  | some (v,h)=>(nh nt fr o.dst v).map (·,h)
  | none=>none:=by
 unfold stepG
 rw[LR]
 cases dh E call fr o.op h with
 | none=>rfl
 | some p =>
  obtain⟨v,h⟩:=p
  simp only[a8,Ez]
  cases nh nt fr o.dst v<;>rfl
theorem GL (E:Env) (call:bU) (nt:Nat) (ops:List Oper) (o:Oper) (fr:Fr) (h:IH):Cq E call nt ops o fr h=de E call nt ops o fr h:=by
 unfold Cq de
 cases hg:o.guard with
 | none =>
  rw[show bE ops o fr=some true from by unfold bE;rw[hg]]
  exact GK E call nt o fr h
 | some g =>
  obtain⟨j,w⟩:=g
  simp only
  rw[Gv ops o j w fr hg]
  cases bE ops o fr with
  | none=>rfl
  | some b =>
   cases b with
   | true=>exact GK E call nt o fr h
   | false =>
    simp only[a8,rG,Ez]
    cases nh nt fr o.dst undef<;>rfl
def sF (E:Env) (call:bU) (nt:Nat) (ops l:List Oper) (fr:Fr) (h:IH):Option (Fr×IH):=List.rec (motive:=fun _=>Fr→IH→Option (Fr×IH)) (fun fr h=>some (fr,h)) (fun o _ ih fr h=>bO (Cq E call nt ops o fr h) (Prod.rec ih)) l fr h
theorem uc (E:Env) (call:bU) (nt:Nat) (ops:List Oper) : ∀(l:List Oper) (fr:Fr) (h:IH),sF E call nt ops l fr h=fu E call nt ops l fr h
 | [],_,_=>rfl
 | o :: l,fr,h=>by
  show bO (Cq E call nt ops o fr h) (Prod.rec (sF E call nt ops l))=_
  rw[GL,fu]
  cases de E call nt ops o fr h with
  | none=>rfl
  | some p=>exact uc E call nt ops l p.1 p.2
def D5 (E:Env) (call:bU) (nt:Nat) (ops l:List Oper) (fr:Fr) (h:IH):Option (List (Fr×IH)):=List.rec (motive:=fun _=>Fr→IH→Option (List (Fr×IH))) (fun fr h=>some [(fr,h)]) (fun o _ ih fr h=>bO (Cq E call nt ops o fr h) (Prod.rec fun fr' h'=>bO (ih fr' h') fun l=>some ((fr,h) :: l))) l fr h
def Cm (E:Env) (call:bU) (nt:Nat) (ops:List Oper) : ∀(l:List Oper) (fr:Fr) (h:IH),D5 E call nt ops l fr h=trace E call nt ops l fr h
 | [],_,_=>rfl
 | o :: l,fr,h=>by
  show bO (Cq E call nt ops o fr h) (Prod.rec fun fr' h'=>bO (D5 E call nt ops l fr' h') fun l=>some ((fr,h) :: l))=_
  rw[GL,trace]
  cases de E call nt ops o fr h with
  | none=>rfl
  | some p =>
   obtain⟨fr',h'⟩:=p
   simp only[a8,Cm E call nt ops l]
   cases trace E call nt ops l fr' h'<;>rfl
def Vm (E:Env) (fr:Fr) (o:Op) (h:IH):Option (Value×IH):=XU o E (fun _ _ _=>none) fr h
theorem MT (E:Env) (fr:Fr) (o:Op) (h:IH):Vm E fr o h=iop E.P fr o h:=by
 unfold Vm
 rw[LR]
 cases o<;>try rfl
 rename_i c
 simp only[dh,iop]
 cases c.callee with
 | value f=>simp only;cases opd fr f<;>cases gL fr c.args.toList<;>rfl
 | _=>rfl
def wO (E:Env) (fr:Fr) (o:Op) (h h':IH):Bool :=
 match Vm E fr o h,Vm E fr o h' with
 | some (v,_),some (v',_)=>eqV v v'
 | _,_=>false
def Lm (ops:List Oper) (o:Oper) (fr:Fr):Option Bool:=Option.rec (motive:=fun _=>Option Bool) (some true) (fun g=>Ln ops g fr) o.guard
def Qk (ops:List Oper) (o:Oper) (fr:Fr):Lm ops o fr=bE ops o fr:=by
 unfold Lm
 cases hg:o.guard with
 | none=>unfold bE;rw[hg]
 | some g=>exact Gv ops o g.1 g.2 fr hg
def Ek (E:Env) (ops:List Oper) (tr:List (Fr×IH)) (pl:List (Nat×List Nat)):Bool :=
 pl.all fun e=>match ops[e.1]?,tr[e.1]? with
  | some o,some (fr,h)=>match Lm ops o fr with
   | some true=>e.2.all fun p=>match tr[p]? with
    | some (_,h')=>wO E fr o.op h h'
    | none=>false
   | _=>true
  | _,_=>false
def Jh (E:Env) (ops:List Oper) (tr:List (Fr×IH)) (pl:List (Nat×List Nat)):Ek E ops tr pl=steady E.P ops tr pl:=by
 have e:wO E=gP E.P:=by
  funext fr o h h'
  unfold wO gP
  rw[MT,MT];rfl
 have e2:Lm=bE:=by funext ops o fr;exact Qk ops o fr
 unfold Ek steady
 rw[e,e2];rfl
def Rl (ops:List Oper):Option (List (Nat×List Nat)):=bif lU ops then some (yJ ops) else none
def FC (E:Env) (call:bU) (nt:Nat) (ops:List Oper) (fr:Fr) (h:IH):Option (Fr×IH):=bO (Rl ops) (List.rec (motive:=fun _=>Option (Fr×IH)) (sF E call nt ops ops fr h) (fun a l _=>bO (D5 E call nt ops ops fr h) fun tr=>iB (Ek E ops tr (a :: l)) tr[ops.length]? none))
theorem zM (E:Env) (call:bU) (nt:Nat) (ops:List Oper) : ∀(l:List Oper) (fr:Fr) (h:IH),(match trace E call nt ops l fr h with|none=>none|some tr=>tr[l.length]?)=fu E call nt ops l fr h
 | [],_,_=>rfl
 | o :: l,fr,h=>by
  rw[trace,fu]
  cases de E call nt ops o fr h with
  | none=>rfl
  | some p =>
   obtain⟨fr',h'⟩:=p
   simp only
   rw[←zM E call nt ops l fr' h']
   cases trace E call nt ops l fr' h'<;>rfl
theorem Pu (E:Env) (call:bU) (nt:Nat) (ops:List Oper) (fr:Fr) (h:IH):FC E call nt ops fr h=gV E call nt ops fr h:=by
 unfold FC gV Rl
 cases ho:lU ops with
 | false=>cases trace E call nt ops ops fr h<;>rfl
 | true =>
  simp only[cond_true,a8,Bool.true_and]
  cases hp:yJ ops with
  | nil =>
   show sF E call nt ops ops fr h=_
   rw[uc,←zM]
   cases trace E call nt ops ops fr h<;>rfl
  | cons a l =>
   show bO (D5 E call nt ops ops fr h) _=_
   simp only[Cm,Jh,eG]
   cases trace E call nt ops ops fr h<;>rfl
abbrev Sm:=Fr→IH→Out
def Wl:Sm:=fun fr h=>some (.normal,fr,h)
def Zce (i:Nat):Sm:=fun fr h=>some (.exit i,fr,h)
def retC:Sm:=fun fr h=>some (.ret,fr,h)
def noC:Sm:=fun _ _=>none
def BO (k:Sm) (p:bN×Fr×IH):Out:=Prod.rec (fun e q=>bN.rec (motive:=fun _=>Out) (Prod.rec (fun fr h=>k fr h) q) (fun i=>some (.exit i,q)) (some (.ret,q)) e) p
def seqC (a b:Sm):Sm:=fun fr h=>bO (a fr h) (BO b)
def Zcm (c:Operand) (a b:Sm):Sm:=fun fr h=>bO (cV c fr) fun v=>match v with
 | .bool t=>iB t a b fr h
 | _=>none
def KS (id:Nat) (b:Sm):Sm:=fun fr h=>bO (b fr h) (Prod.rec fun e q=>bN.rec (motive:=fun _=>Out) (some (.normal,q)) (fun i=>iB (Nat.beq i id) (some (.normal,q)) (some (.exit i,q))) (some (.ret,q)) e)
def J8 (b:Sm) (n:Nat):Sm:=Nat.rec (motive:=fun _=>Sm) noC (fun _ ih fr h=>bO (b fr h) (BO ih)) n
theorem DM (k:Sm) (o:Out):bO o (BO k)=match o with
  | some (.normal,fr,h)=>k fr h
  | some (.exit i,fr,h)=>some (.exit i,fr,h)
  | some (.ret,fr,h)=>some (.ret,fr,h)
  | none=>none:=by
 cases o with
 | none=>rfl
 | some p =>
  obtain⟨e,fr,h⟩:=p
  cases e<;>rfl
theorem C3 (b:Sm) : ∀n,J8 b n=mJ b n
 | 0=>by funext fr h;rfl
 | n+1=>by
  funext fr h
  show bO (b fr h) (BO (J8 b n))=_
  rw[DM,C3 b n];rfl
def EV (b:Code):Bool:=match b with
 | .seq (.region _ ops draw) _=>(rA ops.toList draw).isSome
 | _=>false
def RT (E:Env) (call:bU) (fn:FuncId) (nt:Nat) (rd:Option Nat) (n:Nat) (b:Code) (ih:Sm):Sm:=iB (EV b) (evC E call fn nt rd n (.loop b)) (J8 ih n)
def MP {β:Type} (fr:Fr) (l:List Nat) (k:Fr→β):β:=List.rec (motive:=fun _=>(Fr→β)→β) (fun k=>k []) (fun t _ ih k=>Option.rec (motive:=fun _=>β) (ih k) (fun v=>ih fun r=>k ((t,v) :: r)) (vX fr t)) l k
variable {β:Type}
def AO (fr:Fr) : ∀(l:List Nat) (k:Fr→β),MP fr l k=k (eh fr l)
 | [],_=>rfl
 | t :: l,k=>by
  show Option.rec (motive:=fun _=>β) (MP fr l k) (fun v=>MP fr l fun r=>k ((t,v) :: r)) (vX fr t)=_
  rw[oW,eh]
  cases ab fr t with
  | none=>exact AO fr l k
  | some v=>exact AO fr l _
def MX {β:Type} (E:Env) (fn:FuncId) (id:Nat) (fr:Fr) (k:Fr→β):β:=Option.rec (motive:=fun _=>β) (k fr) (fun l=>MP fr l k) (E.lv fn id)
theorem Si (E:Env) (fn:FuncId) (id:Nat) (fr:Fr) (k:Fr→β):MX E fn id fr k=k (hP E fn id fr):=by
 unfold MX hP
 cases E.lv fn id with
 | none=>rfl
 | some l=>exact AO fr l k
def UB (E:Env) (call:bU) (fn:FuncId) (nt:Nat) (id:Nat) (ops:Array Oper) (draw:Bool):Sm:=fun fr h=>MX E fn id fr fun fr=>bO (iB draw (FC E call nt ops.toList fr h) (sF E call nt ops.toList ops.toList fr h)) fun q=>some (.normal,q)
def nF (h:IH) (k:Nat):Option ir:=bO (uR h.ext k) fun o=>match o with
 | .loop r=>some r
 | _=>none
theorem ur (h:IH) (k:Nat):nF h k=fx h k:=by
 unfold nF fx
 rw[mu]
 cases h.ext.get k with
 | none=>rfl
 | some o=>cases o<;>rfl
def Q2 (h:IH) (rd:Option Nat):Bool:=Option.rec (motive:=fun _=>Bool) true (fun l=>(nF h l).isSome) rd
def Oj (h:IH) (rd:Option Nat):Q2 h rd=pF h rd:=by
 cases rd with
 | none=>rfl
 | some l =>
  show(nF h l).isSome=(fx h l).isSome
  rw[ur]
def Jz (E:Env) (call:bU) (fn:FuncId) (nt:Nat) (rd:Option Nat) (f:Operand) (params:Array Tmp) (assign body:Code):Sm:=fun fr h =>
 iB (Q2 h rd) (bO (cV f fr) fun fv=>OR h (.loop { state:=.ready,pending:=none,fn,nt,fr,params:=params.toList,assign,body }) fun k h0=>fN (Nat.mul 2 k) fun k2 =>
  bO (call fv [.func (.yield k2) #[] #[]] h0) (Prod.rec fun _ h1=>bO (nF h1 k) fun r=>iB (r.state == .busy) none (bO (uC r.pending) fun e=>Jr h1 k .dead fun h=>some (e,fr,h)))) none
def Ov (E:Env) (call:bU) (fn:FuncId) (nt:Nat) (rd:Option Nat) (f:Operand) (params:Array Tmp) (assign body:Code) (fr:Fr) (h:IH):Jz E call fn nt rd f params assign body fr h=kG E call fn nt rd f params.toList assign body fr h:=by
 unfold Jz kG
 simp only[y9,dX,Oj,ur,cA,Et,eG]
 cases pF h rd with
 | false=>rfl
 | true =>
  simp only[cond_true]
  cases opd fr f with
  | none=>rfl
  | some fv =>
   simp only[a8]
   show bO (call fv [.func (.yield (2*h.n)) #[] #[]] _) _=_
   cases call fv [.func (.yield (2*h.n)) #[] #[]] (h.new (.loop { state:=.ready,pending:=none,fn,nt,fr,params:=params.toList,assign,body })) with
   | none=>rfl
   | some p =>
    obtain⟨v,h1⟩:=p
    simp only[a8]
    cases fx h1 h.n with
    | none=>rfl
    | some r =>
     simp only[a8]
     cases r.state == .busy with
     | true=>rfl
     | false =>
      simp only[cond_false]
      cases uC r.pending<;>rfl
def evF (E:Env) (call:bU) (fn:FuncId) (nt:Nat) (rd:Option Nat) (n:Nat) (c:Code):Sm:=Code.rec (motive:=fun _=>Sm) Wl (fun id ops draw=>UB E call fn nt id ops draw) (fun _ _ a b=>seqC a b) (fun c _ _ a b=>Zcm c a b) (fun id _ b=>KS id b) (fun b ih=>RT E call fn nt rd n b ih)
 (fun f ps a b _ _=>Jz E call fn nt rd f ps a b) Zce (fun _ b=>b) (fun _=>Wl) (fun _=>noC) retC (fun _=>noC) c
theorem pV (E:Env) (call:bU) (fn:FuncId) (nt:Nat) (rd:Option Nat) (n:Nat) : ∀(c:Code),evF E call fn nt rd n c=evC E call fn nt rd n c
 | .skip=>by funext fr h;rw[evC];rfl
 | .label _=>by funext fr h;rw[evC];rfl
 | .region id ops draw=>by
  funext fr h
  show MX E fn id fr (fun fr=>bO (iB draw (FC E call nt ops.toList fr h) (sF E call nt ops.toList ops.toList fr h)) fun q=>some (bN.normal,q))=_
  rw[evC,Si,eG,Pu,uc]
  cases(bif draw then gV E call nt ops.toList (hP E fn id fr) h else fu E call nt ops.toList ops.toList (hP E fn id fr) h)<;>rfl
 | .seq a b=>by
  funext fr h
  show bO (evF E call fn nt rd n a fr h) (BO (evF E call fn nt rd n b))=_
  rw[pV E call fn nt rd n a,pV E call fn nt rd n b,DM,evC]
  cases evC E call fn nt rd n a fr h with
  | none=>rfl
  | some p=>rfl
 | .cond c a b=>by
  funext fr h
  show bO (cV c fr) _=_
  simp only[evC,cA]
  show(bO (opd fr c) fun v=>match v with|.bool t=>iB t (evF E call fn nt rd n a) (evF E call fn nt rd n b) fr h|_=>none)=_
  rw[pV E call fn nt rd n a,pV E call fn nt rd n b]
  cases opd fr c with
  | none=>rfl
  | some v =>
   cases v with
   | bool t=>cases t<;>rfl
   | _=>rfl
 | .block id b=>by
  funext fr h
  show KS id (evF E call fn nt rd n b) fr h=_
  rw[pV E call fn nt rd n b,evC]
  unfold KS
  cases evC E call fn nt rd n b fr h with
  | none=>rfl
  | some p =>
   obtain⟨e,fr,h⟩:=p
   cases e with
   | exit i =>
    show iB (Nat.beq i id) _ _=_
    rw[eG]
    simp only[lz]
   | _=>rfl
 | .loop b=>by
  funext fr h
  show RT E call fn nt rd n b (evF E call fn nt rd n b) fr h=_
  rw[pV E call fn nt rd n b]
  unfold RT
  cases hm:EV b with
  | true=>rfl
  | false =>
   rw[rG,C3]
   cases b with
   | seq a rest =>
    cases a with
    | region id ops draw =>
     rw[evC]
     have hn:rA ops.toList draw=none:=by
      cases ho:rA ops.toList draw with
      | none=>rfl
      | some x=>rw[EV,ho] at hm;cases hm
     rw[hn]
    | _=>rw[evC];intro _ _ _ _ h;cases h
   | _=>rw[evC];intro _ _ _ _ h;cases h
 | .scope b=>by
  show evF E call fn nt rd n b=_
  rw[pV E call fn nt rd n b]
  funext fr h;rw[evC]
 | .rangeFunc f ps a b=>by
  funext fr h
  rw[evC];exact Ov E call fn nt rd f ps a b fr h
 | .exit i=>by funext fr h;rw[evC];rfl
 | .ret=>by funext fr h;rw[evC];rfl
 | .goto _=>by funext fr h;rw[evC];rfl
 | .refuse _=>by funext fr h;rw[evC];rfl
def Ew (P:Program) (fr:Fr) (h:IH) (r:ResultVar):Option Value:=match r with
 | .tmp t=>vX fr t
 | .cell a t=>bO (vX fr a) fun v=>ME P h t v
def vk (P:Program) (fr:Fr) (h:IH) (l:List ResultVar):Option (List Value):=List.rec (motive:=fun _=>Option (List Value)) (some []) (fun r _ ih=>bO (Ew P fr h r) fun v=>bO ih fun vs=>some (v :: vs)) l
theorem xW (P:Program) (fr:Fr) (h:IH) : ∀l,vk P fr h l=bf P fr h l
 | []=>rfl
 | r :: l=>by
  show bO (Ew P fr h r) (fun v=>bO (vk P fr h l) fun vs=>some (v :: vs))=_
  rw[xW P fr h l,bf,show Ew P fr h r=gW P fr h r from ?_]
  ·cases gW P fr h r<;>cases bf P fr h l<;>rfl
  ·cases r with
   | tmp t=>exact oW fr t
   | cell a t =>
    show bO (vX fr a) _=_
    rw[oW]
    simp only[gW,HS]
    cases ab fr a<;>rfl
def SF (l:List Value):Fr:=List.rec (motive:=fun _=>Nat→Fr) (fun _ => []) (fun v _ ih i=>(i,v) :: ih (Nat.succ i)) l 0
def Dl : ∀(l:List Value) (i:Nat),List.rec (motive:=fun _=>Nat→Fr) (fun _ => []) (fun v _ ih i=>(i,v) :: ih (Nat.succ i)) l i=dL i l
 | [],_=>rfl
 | v :: l,i=>congrArg ((i,v) :: ·) (Dl l (i+1))
theorem Pt (l:List Value):SF l=dL 0 l:=Dl l 0
def Tw (E:Env) (call:bU) (n:Nat) (f:FuncId) (fn:Func) (args:List Value) (h:IH) (c:Code):Option (Value×IH) :=
 iB (Nat.ble (AL args) fn.ntmps) (bO (evF E call f fn.ntmps none n c (SF args) h) (Prod.rec fun e q=>bN.rec (motive:=fun _=>Option (Value×IH))
  (Prod.rec (fun fr h=>bO (vk E.P fr h fn.results.toList) fun vs=>some (single vs,h)) q) (fun _=>none) (Prod.rec (fun fr h=>bO (vk E.P fr h fn.results.toList) fun vs=>some (single vs,h)) q) e)) none
def zl (E:Env) (call:bU) (n:Nat) (f:FuncId) (args:List Value) (h:IH):Option (Value×IH):=Option.rec (motive:=fun _=>Option (Value×IH))
 (bO E.P.funcs[f]? fun fn=>Option.rec (motive:=fun _=>Option (Value×IH)) (okV h (mW fn.name args)) (Tw E call n f fn args h) fn.body) (fun g=>g args h) (E.tk f)
def KP (E:Env) (call:bU) (n:Nat) (f:FuncId) (args:List Value) (h:IH):zl E call n f args h=ov E call n f args h:=by
 unfold zl ov
 cases E.tk f with
 | some g=>rfl
 | none =>
  cases E.P.funcs[f]? with
  | none=>rfl
  | some fn =>
   simp only[a8]
   cases fn.body with
   | none=>exact jV _ _
   | some c =>
    show Tw E call n f fn args h c=bif Nat.ble args.length fn.ntmps then _ else none
    unfold Tw
    rw[kK,eG,pV,Pt]
    simp only[xW]
    cases Nat.ble args.length fn.ntmps with
    | false=>rfl
    | true =>
     simp only[cond_true]
     cases evC E call f fn.ntmps none n c (dL 0 args) h with
     | none=>rfl
     | some p =>
      obtain⟨e,fr,h⟩:=p
      cases e with
      | exit i=>rfl
      | normal =>
       show bO (bf E.P fr h fn.results.toList) _=(bf E.P fr h fn.results.toList).map _
       cases bf E.P fr h fn.results.toList<;>rfl
      | ret =>
       show bO (bf E.P fr h fn.results.toList) _=(bf E.P fr h fn.results.toList).map _
       cases bf E.P fr h fn.results.toList<;>rfl
def EI (nt:Nat) (l:List Nat) (vs:List Value) (fr:Fr):Option Fr:=List.rec (motive:=fun _=>List Value→Fr→Option Fr) (fun vs fr=>List.rec (motive:=fun _=>Option Fr) (some fr) (fun _ _ _=>none) vs) (fun t _ ih vs fr=>List.rec (motive:=fun _=>Option Fr) none (fun v vs _=>bO (Rg nt fr (some t) v) (ih vs)) vs) l vs fr
def As (nt:Nat) : ∀(l:List Nat) (vs:List Value) (fr:Fr),EI nt l vs fr=dZ nt l vs fr
 | [],[],_=>rfl
 | [],_ :: _,_=>rfl
 | _ :: _,[],_=>rfl
 | t :: l,v :: vs,fr=>by
  show bO (Rg nt fr (some t) v) (EI nt l vs)=_
  rw[Ez,dZ]
  cases nh nt fr (some t) v with
  | none=>rfl
  | some fr=>exact As nt l vs fr
def DQ (E:Env) (call:bU) (n:Nat) (l:Nat) (args:List Value) (h:IH):Option (Value×IH) :=
 bO (nF h l) fun r=>bO (EI r.nt r.params args r.fr) fun fr=>bO (evF E call r.fn r.nt (some l) n r.assign fr h) (Prod.rec fun e q=>bN.rec (motive:=fun _=>Option (Value×IH)) (Prod.rec (fun fr h=>bO (nF h l) fun r1=>iB (r1.state == .ready)
  (Jr h l (.loop { r1 with state:=.busy }) fun h=>bO (evF E call r.fn r.nt (some l) n r.body fr h) (Prod.rec fun e q=>Prod.rec (fun _ h=>bO (nF h l) fun r2=>bN.rec (motive:=fun _=>Option (Value×IH))
   (Jr h l (.loop { r2 with state:=.ready,pending:=none }) fun h=>some (.bool true,h))
   (fun i=>Jr h l (.loop { r2 with state:=.done,pending:=some (.exit i) }) fun h=>some (.bool false,h))
   (Jr h l (.loop { r2 with state:=.done,pending:=some .ret }) fun h=>some (.bool false,h)) e) q)) none) q) (fun _=>none) none e)
def NM (E:Env) (call:bU) (n:Nat) (l:Nat) (args:List Value) (h:IH):DQ E call n l args h=dM E call n l args h:=by
 unfold DQ dM
 simp only[ur,As,pV,Et,eG]
 cases fx h l with
 | none=>rfl
 | some r =>
  simp only[a8]
  cases dZ r.nt r.params args r.fr with
  | none=>rfl
  | some fr =>
   simp only[a8]
   cases evC E call r.fn r.nt (some l) n r.assign fr h with
   | none=>rfl
   | some p =>
    obtain⟨e,fr,h⟩:=p
    cases e with
    | exit i=>rfl
    | ret=>rfl
    | normal =>
     simp only[a8]
     cases fx h l with
     | none=>rfl
     | some r1 =>
      simp only[a8]
      cases r1.state == .ready with
      | false=>rfl
      | true =>
       simp only[cond_true]
       cases evC E call r.fn r.nt (some l) n r.body fr { h with ext:=h.ext.set l (.loop { r1 with state:=.busy }) } with
       | none=>rfl
       | some p =>
        obtain⟨e,fr,h⟩:=p
        simp only[a8]
        cases fx h l with
        | none=>rfl
        | some r2=>cases e<;>rfl
def Np (E:Env) (n:Nat):bU:=Nat.rec (motive:=fun _=>bU) (fun _ _ _=>none) (fun n ih fv vs h=>match fv with
 | .func (.func f) first cap=>zl E ih n f (yO first.toList (yO vs cap.toList)) h
 | .func (.yield l) first _=>iB (Nat.beq (Nat.mod l 2) 0) (DQ E ih n (Nat.div l 2) (yO first.toList vs) h) none
 | _=>none) n
theorem ID (E:Env) : ∀n,Np E n=cc E n
 | 0=>rfl
 | n+1=>by
  funext fv vs h
  show(match fv with
   | .func (.func f) first cap=>zl E (Np E n) n f (yO first.toList (yO vs cap.toList)) h
   | .func (.yield l) first _=>iB (Nat.beq (Nat.mod l 2) 0) (DQ E (Np E n) n (Nat.div l 2) (yO first.toList vs) h) none
   | _=>none)=match fv with
   | .func (.func f) first cap=>ov E (cc E n) n f (first.toList ++ (vs ++ cap.toList)) h
   | .func (.yield l) first _=>bif l % 2 == 0 then dM E (cc E n) n (l / 2) (first.toList ++ vs) h else none
   | _=>none
  rw[ID E n]
  simp only[KP,NM,zn,eG,lz];rfl
def Nv (E:Env) (n:Nat) (f:FuncId) (base:Nat→Option (List Value)):Bool:=Option.rec (motive:=fun _=>Bool) false (fun p=>match p.1 with|.bool b=>b|_=>false) (Np E n (.func (.func f) #[] #[]) [] (IH.start base))
def KR {E:Env} {n:Nat} {f:FuncId} {base:Nat→Option (List Value)} (h:Nv E n f base=true) : ∃h',cc E n (.func (.func f) #[] #[]) [] (IH.start base)=some (.bool true,h'):=by
 unfold Nv at h
 rw[ID] at h
 cases hc:cc E n (.func (.func f) #[] #[]) [] (IH.start base) with
 | none=>rw[hc] at h;cases h
 | some p =>
  obtain⟨v,h'⟩:=p
  rw[hc] at h
  cases v with
  | bool b =>
   cases b with
   | true=>exact⟨h',rfl⟩
   | false=>cases h
  | _=>cases h
end
noncomputable section
def w64:Nat:=18446744073709551616
def Gx:Nat:=13407807929942597099574024998205846127479365820592393377723561443721764030073546976801874298166903427690031858186486050853753882811946569946433649006084096
def Pg:Nat:=6703903964971298549787012499102923063739682910296196688861780721860882015036773488400937149083451713845015929093243025426876941405973284973216824503042048
def Qc (v:Value) (ih:Option Nat):Option Nat:=match v with
 | .int .u64 (.ofNat w)=>iB (Nat.ble (Nat.succ w) w64) (bO ih fun r=>some (Nat.add w (Nat.mul w64 r))) none
 | _=>none
def tV (l:List Value):Option Nat:=List.rec (motive:=fun _=>Option Nat) (some 0) (fun v _ ih=>Qc v ih) l
def Jq (n:Nat):Int:=iB (Nat.ble (Nat.succ n) Pg) (Int.ofNat n) (Int.negSucc (Nat.sub (Nat.sub Gx n) 1))
def Li (z:Int):Nat:=Int.rec (motive:=fun _=>Nat) (fun n=>n) (fun n=>Nat.sub Gx (Nat.succ n)) z
def qE (k x:Nat) (tl:List Value):List Value:=Nat.rec (motive:=fun _=>Nat→List Value) (fun _=>tl) (fun _ ih x=>fN (Nat.mod x w64) fun w=>.int .u64 (.ofNat w) :: ih (Nat.div x w64)) k x
def PX (num den:Int):Value:=.agg ⟨qE 8 (Li num) (qE 8 (Li den) [])⟩
def inF (z:Int):Bool:=Int.rec (motive:=fun _=>Bool) (fun n=>Nat.ble (Nat.succ n) Pg) (fun n=>Nat.ble (Nat.succ n) Pg) z
def xN (n d:Int):Value:=fN (Int.gcd n d) fun g=>iB (inF (Int.ediv n (Int.ofNat g))) (iB (inF (Int.ediv d (Int.ofNat g))) (.tuple #[PX (Int.ediv n (Int.ofNat g)) (Int.ediv d (Int.ofNat g)),.int .i64 (.ofNat 0)]) (.tuple #[PX 0 0,.int .i64 (.ofNat 6)])) (.tuple #[PX 0 0,.int .i64 (.ofNat 6)])
def posF (z:Int):Bool:=Int.rec (motive:=fun _=>Bool) (fun n=>Nat.ble 1 n) (fun _=>false) z
def okF (n d:Int):Bool:=iB (posF d) (Nat.beq (Int.gcd n d) 1) false
def ub (v:Value) (k:Int→Int→Option Value):Option Value:=match v with
 | .agg cs=>iB (Nat.beq (AL cs.toList) 16) (bO (tV cs.toList) fun x=>fN x fun x=>k (Jq (Nat.mod x Gx)) (Jq (Nat.div x Gx))) none
 | _=>none
def Ch (v:Value) (k:Int→Option Value):Option Value:=match v with
 | .agg cs=>iB (Nat.beq (AL cs.toList) 8) (bO (tV cs.toList) fun x=>fN x fun x=>k (Jq x)) none
 | _=>none
def Vn (v:Value) (k:Int→Option Value):Option Value:=match v with
 | .int .i64 z=>k z
 | _=>none
def Zj (n d:Int):Value:=Int.rec (motive:=fun _=>Value) (fun b=>xN n (.ofNat b)) (fun b=>xN (Int.neg n) (.ofNat (Nat.succ b))) d
def Ib (z:Int):Bool:=Int.rec (motive:=fun _=>Bool) (fun n=>Nat.ble (Nat.succ n) 9223372036854775808) (fun n=>Nat.ble (Nat.succ n) 9223372036854775808) z
def P2 (z:Int):Bool:=Int.rec (motive:=fun _=>Bool) (fun n=>Nat.beq n 0) (fun _=>false) z
def VM (x y:Int):Int:=Int.rec (motive:=fun _=>Int) (fun n=>Nat.rec (motive:=fun _=>Int) 0 (fun _ _=>1) n) (fun _ => -1) (Int.sub x y)
def of2 (l:List Value):Option Value:=match l with
 | [n,d]=>Vn n fun n=>Vn d fun d=>iB (Ib n) (iB (Ib d) (iB (P2 d) none (some (Zj n d))) none) none
 | _=>none
def RO (l:List Value):Option Value:=match l with
 | [n,d]=>Ch n fun n=>Ch d fun d=>iB (P2 d) none (some (Zj n d))
 | _=>none
def KL (l:List Value):Option Value:=match l with
 | [a]=>ub a fun n d=>some (.int .i64 (iB (okF n d) 0 20))
 | _=>none
def XH (of:Int→Int→Int→Int→Option Value) (l:List Value):Option Value:=match l with
 | [a,b]=>ub a fun n d=>iB (okF n d) (ub b fun m e=>iB (okF m e) (of n d m e) none) none
 | _=>none
def cmp2 (l:List Value):Option Value:=XH (fun n d m e=>some (.tuple #[.int .i64 (VM (Int.mul n e) (Int.mul m d)),.int .i64 0])) l
end
theorem D2:Gx=W8:=by rw[wF];decide +kernel
def M5:Pg=H8:=by unfold H8;decide +kernel
def qF : ∀(l:List Value) (x:Nat),tV l=some x→x<18446744073709551616 ^ l.length∧l=(List.range l.length).map fun i=>K64 (wrd x i)
 | [],x,h=>by
  cases h;exact⟨by decide,rfl⟩
 | v :: l,x,h=>by
  change Qc v (tV l)=some x at h
  unfold Qc at h
  split at h
  case h_2=>cases h
  rename_i w
  obtain⟨h0,h⟩:=cG h
  cases hr:tV l with
  | none=>rw[hr] at h;cases h
  | some r =>
   rw[hr] at h
   cases h
   obtain⟨a,b⟩:=qF l r hr
   have hw:w<18446744073709551616:=rS.1 h0
   show w+18446744073709551616*r<18446744073709551616 ^ (l.length+1)∧_
   refine⟨?_,?_⟩
   ·rw[Nat.pow_succ]
    have:(r+1)*18446744073709551616≤18446744073709551616 ^ l.length*18446744073709551616:=Nat.mul_le_mul_right _ a
    omega
   ·show _=(List.range (l.length+1)).map fun i=>K64 (wrd (w+18446744073709551616*r) i)
    rw[List.range_succ_eq_map,List.map_cons,List.map_map]
    have e0:wrd (w+18446744073709551616*r) 0=w:=by unfold wrd;rw[Nat.pow_zero,Nat.div_one];omega
    have e1 : ∀i,wrd (w+18446744073709551616*r) (i+1)=wrd r i:=fun i=>by
     unfold wrd
     rw[Nat.pow_succ,Nat.mul_comm (18446744073709551616 ^ i),←Nat.div_div_eq_div_mul,show(w+18446744073709551616*r) / 18446744073709551616=r from by omega]
    rw[e0]
    congr 1
    refine b.trans (List.map_congr_left fun i _=>?_)
    show _=K64 (wrd (w+18446744073709551616*r) (i+1))
    rw[e1]
theorem P8 (x i:Nat) (hi:i<8):wrd (x % 18446744073709551616 ^ 8) i=wrd x i:=by
 have h:=qA (n:=x % 18446744073709551616 ^ 8) (x:=x / 18446744073709551616 ^ 8) hi
 rw[←h,show x % 18446744073709551616 ^ 8+x / 18446744073709551616 ^ 8*18446744073709551616 ^ 8=x from by rw[Nat.mul_comm];exact Nat.mod_add_div _ _]
theorem P9 (x i:Nat):wrd (x / 18446744073709551616 ^ 8) i=wrd x (8+i):=by
 unfold wrd
 rw[Nat.div_div_eq_div_mul,←Nat.pow_add]
theorem TX (x:Nat):((List.range 16).map fun i=>K64 (wrd x i))=shC (x % W8) (x / W8):=by
 rw[shC,wdC,wdC,wF,show(16:Nat)=8+8 from rfl,List.range_add,List.map_append,List.map_map]
 congr 1
 ·exact List.map_congr_left fun i hi=>by rw[P8 x i (by simpa using hi)]
 ·exact List.map_congr_left fun i hi=>by
   show K64 (wrd x (8+i))=_
   rw[P9]
variable {n:Nat}
theorem Er (hn:n<W8):Jq n=wdI n:=by
 have e1:=M5
 have e2:=D2
 have e3:=ow
 unfold Jq wdI
 rw[eG,e1,e2]
 by_cases h:n<H8
 ·rw[if_pos h,rS.2 h];rfl
 ·rw[if_neg h,Bool.eq_false_iff.2 (fun hb=>h (rS.1 hb))]
  show Int.negSucc (W8 - n - 1)=_
  omega
variable {r v:Value}
def nu {k:Int→Int→Option Value} (h:ub v k=some r) : ∃p:Nat×Nat,(p.1<W8∧p.2<W8)∧v=shV p.1 p.2∧k (wdI p.1) (wdI p.2)=some r:=by
 unfold ub at h
 split at h
 case h_2=>cases h
 rename_i cs
 obtain⟨h0,h⟩:=cG h
 have hl:cs.toList.length=16:=by rw[←kK];exact Nat.beq_eq.mp h0
 cases hx:tV cs.toList with
 | none=>rw[hx] at h;cases h
 | some x =>
  rw[hx,a8,dX] at h
  obtain⟨a,b⟩:=qF _ _ hx
  rw[hl] at a b
  have ex:x<W8*W8:=by rw[wF,←Nat.pow_add];exact a
  have hp:0<W8:=by have:=ow;have:=iJ;omega
  have q1:x % W8<W8:=Nat.mod_lt _ hp
  have q2:x / W8<W8:=by rw[Nat.div_lt_iff_lt_mul hp];exact ex
  refine⟨(x % W8,x / W8),⟨q1,q2⟩,?_,?_⟩
  ·rw[shV,←TX,←b]
  ·have h2:k (Jq (x % Gx)) (Jq (x / Gx))=some r:=h
   rw[D2,Er q1,Er q2] at h2
   exact h2
variable {k:Int→Option Value}
def tW (h:Ch v k=some r) : ∃n:Nat,n<W8∧v=wdV n∧k (wdI n)=some r:=by
 unfold Ch at h
 split at h
 case h_2=>cases h
 rename_i cs
 obtain⟨h0,h⟩:=cG h
 have hl:cs.toList.length=8:=by rw[←kK];exact Nat.beq_eq.mp h0
 cases hx:tV cs.toList with
 | none=>rw[hx] at h;cases h
 | some x =>
  rw[hx,a8,dX] at h
  obtain⟨a,b⟩:=qF _ _ hx
  rw[hl] at a b
  have q1:x<W8:=by rw[wF];exact a
  refine⟨x,q1,?_,?_⟩
  ·rw[wdV,wdC,←b]
  ·rw[Er q1] at h
   exact h
def sN (h:Vn v k=some r) : ∃z:Int,v=KI z∧k z=some r:=by
 unfold Vn at h
 split at h
 case h_2=>cases h
 exact⟨_,rfl,h⟩
theorem sA (tl:List Value) : ∀(k x:Nat),qE k x tl=((List.range k).map fun i=>K64 (wrd x i)) ++ tl
 | 0,_=>rfl
 | k+1,x=>by
  show fN (x % 18446744073709551616) (fun w=>Value.int .u64 (.ofNat w) :: qE k (x / 18446744073709551616) tl)=_
  rw[dX,sA tl k,List.range_succ_eq_map,List.map_cons,List.map_map,List.cons_append]
  have e0:wrd x 0=x % 18446744073709551616:=by unfold wrd;rw[Nat.pow_zero,Nat.div_one]
  rw[e0]
  congr 2
  refine List.map_congr_left fun i _=>?_
  show _=K64 (wrd x (i+1))
  unfold wrd
  rw[Nat.pow_succ,Nat.mul_comm (18446744073709551616 ^ i),Nat.div_div_eq_div_mul]
variable {z:Int}
theorem zC (hz:InW z):Li z=aY z:=by
 have e2:=D2
 unfold aY
 cases z with
 | ofNat n=>rfl
 | negSucc n =>
  show Gx - (n+1)=_
  rw[e2,if_neg (by omega)];rfl
theorem NF {a b:Int} (ha:InW a) (hb:InW b):PX a b=shV (aY a) (aY b):=by
 unfold PX shV shC wdC
 rw[sA,sA,zC ha,zC hb,List.append_nil]
theorem Kc (z:Int):inF z=decide (InW z):=by
 have e1:=M5
 have:=iJ
 rw[Bool.eq_iff_iff,decide_eq_true_eq]
 unfold InW
 cases z with
 | ofNat n =>
  show Nat.ble (n+1) Pg=true ↔ -(H8:Int)≤(n:Int)∧(n:Int)<H8
  rw[rS,e1]
  omega
 | negSucc n =>
  show Nat.ble (n+1) Pg=true↔_
  rw[rS,e1]
  omega
variable {d:Int}
theorem zO {n:Int} (hd:0<d):xN n d=gN (Rat.divInt n d):=by
 obtain⟨a,b⟩:=nD (n:=n) hd
 have z0:InW 0:=⟨by have:=iJ;omega,by have:=iJ;omega⟩
 have zz:PX 0 0=shV 0 0:=by rw[NF z0 z0];rfl
 unfold xN gN
 rw[dX,eG,eG,Kc,Kc]
 rw[show Int.ediv n (Int.ofNat (Int.gcd n d))=(Rat.divInt n d).num from a,show Int.ediv d (Int.ofNat (Int.gcd n d))=(Rat.divInt n d).den from b,zz]
 unfold QW
 by_cases c1:InW (Rat.divInt n d).num
 ·by_cases c2:InW ((Rat.divInt n d).den:Int)
  ·rw[if_pos ⟨c1,c2⟩,decide_eq_true c1,decide_eq_true c2,NF c1 c2];rfl
  ·rw[if_neg (fun h=>c2 h.2),decide_eq_true c1,decide_eq_false c2];rfl
 ·rw[if_neg (fun h=>c1 h.1),decide_eq_false c1];rfl
theorem Mg (z:Int):posF z=decide (0<z):=by
 rw[Bool.eq_iff_iff,decide_eq_true_eq]
 cases z with
 | ofNat n =>
  show Nat.ble 1 n=true↔0<(n:Int)
  rw[rS];omega
 | negSucc n=>exact⟨fun h=>Bool.noConfusion h,fun h=>absurd h (by omega)⟩
theorem zr (z:Int):P2 z=decide (z=0):=by
 rw[Bool.eq_iff_iff,decide_eq_true_eq]
 cases z with
 | ofNat n =>
  show Nat.beq n 0=true↔(n:Int)=0
  rw[Nat.beq_eq];omega
 | negSucc n=>exact⟨fun h=>Bool.noConfusion h,fun h=>absurd h (by omega)⟩
def iR (h:Ib z=true):fZ z:=by
 unfold fZ
 cases z with
 | ofNat n =>
  have:=rS.1 (show Nat.ble (Nat.succ n) 9223372036854775808=true from h)
  show _≤(n:Int)∧(n:Int)<_
  omega
 | negSucc n =>
  have:=rS.1 (show Nat.ble (Nat.succ n) 9223372036854775808=true from h)
  omega
def EM {d:Nat} (h:okF (wdI n) (wdI d)=true):okS n d:=by
 unfold okF at h
 rw[eG,Mg] at h
 by_cases c:0<wdI d
 ·rw[decide_eq_true c] at h
  exact⟨c,Nat.beq_eq.mp h⟩
 ·rw[decide_eq_false c] at h;cases h
theorem okF_eq (n d:Nat):okF (wdI n) (wdI d)=(open Classical in decide (okS n d)):=by
 rw[Bool.eq_iff_iff,decide_eq_true_eq]
 refine⟨EM,fun h=>?_⟩
 unfold okF
 rw[eG,Mg,decide_eq_true h.1]
 exact Nat.beq_eq.mpr h.2
theorem FD {n:Int} (hd:d≠0):Zj n d=gN (Rat.divInt n d):=by
 cases d with
 | ofNat b =>
  show xN n (b:Int)=gN (Rat.divInt n (b:Int))
  have:(b:Int)≠0:=hd
  exact zO (by omega)
 | negSucc b =>
  show xN (-n) ((b+1:Nat):Int)=_
  rw[zO (by omega)]
  congr 1
theorem VL (x y:Int):VM x y=if x<y then -1 else if x=y then 0 else 1:=by
 unfold VM
 have e:Int.sub x y=x - y:=rfl
 rw[e]
 cases h:x - y with
 | ofNat n =>
  have h:x - y=(n:Int):=h
  cases n with
  | zero=>rw[if_neg (by omega),if_pos (by omega)];rfl
  | succ m=>rw[if_neg (by omega),if_neg (by omega)]
 | negSucc n=>rw[if_pos (by omega)]
def Co {n:Int} (hn:fZ n) (hd:fZ d) (d0:d≠0):gN (Rat.divInt n d)=.tuple #[gU (Rat.divInt n d),KI 0]:=by
 unfold gN
 rw[if_pos (gX hn hd d0)]
theorem sB (hn:n<W8):aY (wdI n)=n:=by
 have e3:=ow
 unfold aY wdI
 split
 ·rw[if_pos (by omega)];omega
 ·rw[if_neg (by omega)];omega
abbrev Val (f:Value) (g:List Value→Option Value):Prop:=∀args v,args.all plain=true→g args=some v→mF v=true∧WV Proofs.Tryz.prog f args (IH.start fun _=>none) fun r _=>r=v
theorem CL (n d:Nat):plain (shV n d)=true:=by
 show(shC n d).toArray.all bA=true
 rw[shC,wdC,wdC,List.all_toArray,List.all_append,List.all_map,List.all_map]
 simp[bA]
def nA (q:Rat):mF (gN q)=true:=by
 obtain⟨n,d,e,h⟩:=jT q
 rw[h]
 show [shV n d,KI e].all plain=true
 rw[List.all_cons,CL];rfl
def XB:Val (.func (.func 88) #[] #[]) of2:=by
 intro args v _ h
 unfold of2 at h
 split at h
 case h_2=>cases h
 obtain⟨n,e0,k⟩:=sN h
 clear h;subst e0;have h:=k;clear k
 obtain⟨d,e0,k⟩:=sN h
 clear h;subst e0;have h:=k;clear k
 obtain⟨h1,h⟩:=cG h
 obtain⟨h2,h⟩:=cG h
 obtain⟨h3,h⟩:=mN h
 cases h
 have d0:d≠0:=by rw[zr] at h3;exact of_decide_eq_false h3
 have e:=Co (iR h1) (iR h2) d0
 rw[FD d0]
 exact⟨nA _,(LK n d (iR h1) (iR h2) d0).mono fun r h' k=>k.2.trans e.symm⟩
def Qm:Val (.func (.func 42) #[] #[]) of2:=by
 intro args v _ h
 unfold of2 at h
 split at h
 case h_2=>cases h
 obtain⟨n,e0,k⟩:=sN h
 clear h;subst e0;have h:=k;clear k
 obtain⟨d,e0,k⟩:=sN h
 clear h;subst e0;have h:=k;clear k
 obtain⟨h1,h⟩:=cG h
 obtain⟨h2,h⟩:=cG h
 obtain⟨h3,h⟩:=mN h
 cases h
 have d0:d≠0:=by rw[zr] at h3;exact of_decide_eq_false h3
 have e:=Co (iR h1) (iR h2) d0
 rw[FD d0]
 exact⟨nA _,(pJ n d (iR h1) (iR h2) d0).mono fun r h' k=>k.2.trans e.symm⟩
def Qn:Val (.func (.func 189) #[] #[]) RO:=by
 intro args v _ h
 unfold RO at h
 split at h
 case h_2=>cases h
 obtain⟨n,hn,e0,k⟩:=tW h
 clear h;subst e0;have h:=k;clear k
 obtain⟨d,hd,e0,k⟩:=tW h
 clear h;subst e0;have h:=k;clear k
 obtain⟨h3,h⟩:=mN h
 cases h
 have d0:wdI d≠0:=by rw[zr] at h3;exact of_decide_eq_false h3
 rw[FD d0]
 exact⟨nA _,(Cz n d hn hd (fun e=>d0 ((lM hd).2 e))).mono fun r h' k=>k.2⟩
def NW:Val (.func (.func 128) #[] #[]) KL:=by
 intro args v _ h
 unfold KL at h
 split at h
 case h_2=>cases h
 obtain⟨p,hp,e0,k⟩:=nu h
 clear h;subst e0;have h:=k;clear k
 cases h
 rw[okF_eq,eG]
 refine⟨rfl,(pD p.1 p.2 hp.1 hp.2).mono fun r h' k=>k.2.trans ?_⟩
 by_cases c:okS p.1 p.2
 ·rw[if_pos c,decide_eq_true c];rfl
 ·rw[if_neg c,decide_eq_false c];rfl
def N1 {of:Int→Int→Int→Int→Option Value} {l:List Value} (h:XH of l=some v) : ∃p q:Nat×Nat,(p.1<W8∧p.2<W8)∧(q.1<W8∧q.2<W8)∧okS p.1 p.2∧okS q.1 q.2∧l = [shV p.1 p.2,shV q.1 q.2]∧of (wdI p.1) (wdI p.2) (wdI q.1) (wdI q.2)=some v:=by
 unfold XH at h
 split at h
 case h_2=>cases h
 obtain⟨p,hp,e0,k⟩:=nu h
 clear h;subst e0;have h:=k;clear k
 obtain⟨ok1,h⟩:=cG h
 obtain⟨q,hq,e0,k⟩:=nu h
 clear h;subst e0;have h:=k;clear k
 obtain⟨ok2,h⟩:=cG h
 exact⟨p,q,hp,hq,EM ok1,EM ok2,rfl,h⟩
def Ub:Val (.func (.func 26) #[] #[]) cmp2:=by
 intro args v _ h
 obtain⟨p,q,hp,hq,ok1,ok2,e0,k⟩:=N1 h
 clear h;subst e0;have h:=k;clear k
 cases h
 refine⟨rfl,(Aa hp hq ok1 ok2).mono fun r h' k=>k.2.trans ?_⟩
 have e:VM (Int.mul (wdI p.1) (wdI q.2)) (Int.mul (wdI q.1) (wdI p.2))=if rOf p<rOf q then -1 else if rOf p=rOf q then 0 else 1:=by
  rw[VL,←FG,(cZ ok1).1,(cZ ok1).2,(cZ ok2).1,(cZ ok2).2];rfl
 rw[e]
theorem Ra (x y:Rat):x - y=Rat.divInt (x.num*y.den - y.num*x.den) ((x.den:Int)*y.den):=by
 rw[show x - y=x + -y from by grind,vo,Rat.neg_num,Rat.neg_den]
 congr 1
 grind
def ZO (h:IH) (v:Value) (l:List Int):Prop:=bH h 1 v l.length (l.map KI)∧l.length≤1000000000 ∧ ∀x∈l,fZ x
def outB (most n:Int):Bool:=decide (n<0) || decide (most<n)
def Yu (s l:List Int):Int:=if s.length<1∨60<s.length∨s.any (outB 30)=true∨l.length<1∨6<l.length∨l.any (outB 8)=true then 340 else 0
def ZaL (m s:Nat):Nat:=if m=11 then s else if m=12 then 2*s*(s+1) else if m=13 then s*(s+1) else if m=14 then 2*s+1 else s+1
def ZaM (m s:Nat):Nat:=if m=12 then 2*s+1 else if m=14 then 2 else 1
def ZaK (m s:Nat):Rat:=Rat.divInt (ZaL m s) (ZaM m s)
section
variable {P:Program}
end
def cmpQ (x y:Rat):Int:=if x<y then -1 else if x=y then 0 else 1

def Fs (p:Nat→Bool):Nat→Nat
 | 0=>0
 | n+1=>if Fs p n<n then Fs p n else if p n=true then n else n+1
def Wi (k:Int) (m:Nat) (t:Rat) (s:Nat):Bool:=decide (k≤cmpQ (ZaK m s) t)
noncomputable def atT (m:Nat) (x:Rat) (n:Int):Option Rat:=open Classical in
 if QW ((n:Rat) / x) then (if m=13 then (if QW ((n:Rat) / x*((n:Rat) / x)) then some ((n:Rat) / x*((n:Rat) / x)) else none) else some ((n:Rat) / x)) else none
def Zcy (m:Nat) (t:Rat):Nat:=Fs (Wi 0 m t) 1001
def TD (m:Nat) (t:Rat):Nat:=Fs (Wi 1 m t) 1001
noncomputable def Xk (m:Nat) (x:Rat) (n:Int):Int×Int×Int:=match atT m x n with
 | none=>(6,0,0)
 | some t=>if n=0 then (0,0,0) else if 1000<TD m t then (2,0,0) else (0,(Zcy m t:Nat),(TD m t:Nat))
noncomputable def atA (m:Nat) (x:Rat) (l:List Int):List Value:=l.map fun n=>KI (Xk m x n).2.1
noncomputable def atB (m:Nat) (x:Rat) (l:List Int):List Value:=l.map fun n=>KI (Xk m x n).2.2

abbrev Reg:=Int×Int×Int
def regC (r:Reg):List Value:=[KI r.1,KI r.2.1,KI r.2.2]
def regL (l:List Reg):List Value:=l.flatMap regC
def WJ (won low:List Int) (n:Nat):Prop:=∀i,i<n→0≤low.getD i 0∧low.getD i 0≤won.getD i 0
instance (won low:List Int) (n:Nat):Decidable (WJ won low n):=inferInstanceAs (Decidable (∀i,i<n→_))
def XZ (wV won low:List Int) (n:Nat):List Reg:=(List.range n).map fun i=>(wV.getD i 0,won.getD i 0,low.getD i 0)
structure OX (h H1 hh:IH) (fr:Fr) (vp vw vl:Value) (m:Int) (wV won low:List Int) (b:Nat) (i:Nat) (out:Value):Prop where
 e:Ext h hh
 k:aK H1 hh
 sp:bH H1 1 vp wV.length (wV.map KI)
 sw:bH H1 1 vw won.length (won.map KI)
 sl:bH H1 1 vl low.length (low.map KI)
 bn:h.n<b∧b<hh.n
 g8:hh.ext.get h.n=some (.cells [KI 0,.slice none 0 0] 0 none)
 g11:hh.ext.get b=some (.cells [KI m,out] 0 none)
 acc:Acc hh h.n 3 out i (regL (XZ wV won low i))
 lw:WJ won low i
 f1:ab fr 1=some vw
 f3:ab fr 3=some vl
 f8:ab fr 8=some (ptr (2*h.n) 0)
 f11:ab fr 11=some (ptr (2*b) 0)
 f12:ab fr 12=some (KI (won.take i).sum)
 f52:ab fr 52=some vp
 f53:ab fr 53=some (KI wV.length)
 f54:ab fr 54=some (KI i)
def IL {P:Program} {t:TypeId} {sz bytes:Nat} (hT:jh P t=some (sz,bytes)) {h:IH} {b o n:Nat} {cs:List Value} (sv:lF h sz (.slice (some ⟨b,o,none⟩) n (2*n+1)) n cs) {x:Value} {m:Nat} {new:List Value} (sx:lF h sz x m new) (hm:0<m) (hn:0<n) (hc:new.all aB=true) (hsz:(n+m)*(bytes+1)≤1099511627776) :
  append P h t (.slice (some ⟨b,o,none⟩) n (2*n+1)) x=some (.slice (some ⟨2*h.n,0,none⟩) (n+m) (2*(n+m)),h.new (.cells (cs ++ new) sz none)):=by
 unfold jh at hT
 split at hT
 case h_2=>cases hT
 rename_i e hu
 split at hT
 case h_2=>cases hT
 rename_i zs h1 h2 h3
 simp only[cond_eq_ite] at hT
 split at hT
 case isTrue=>cases hT
 rename_i AV
 cases hT
 have jN:(sz == 0 || (!(Nat.ble bytes 65536) || !(zs.length == sz)))=false:=by simpa using AV
 have first : ∀{y:Value} {k:Nat} {l:List Value},0<k→lF h sz y k l→bF h sz k y=some l∧lenOf y=some k:=by
  intro y k l hk s
  obtain⟨hz,hl,⟨rfl,rfl⟩|⟨b2,o2,k2,rfl,rfl|⟨row,a1,a2,a3⟩⟩⟩:=s
  ·omega
  ·omega
  have hms : ¬k*sz=0:=by
   have:0<k*sz:=Nat.mul_pos hk hz
   omega
  refine⟨?_,rfl⟩
  simp only[bF,cond_eq_ite,Nat.ble_eq,Nat.le_refl,if_true,beq_iff_eq,if_neg hms]
  rw[tH a1,if_pos a3,a2]
 have tp:(m == 0)=false:=by simp;omega
 obtain⟨hfx,hlx⟩:=first hm sx
 obtain⟨hfv,_⟩:=first hn sv
 have qv:Nat.ble ((n+m)*(bytes+1)) aN=true:=by rw[Nat.ble_eq];exact hsz
 have mQ:Nat.ble (n+m) ((2*n+1) / 2)=false:=by
  rw[Bool.eq_false_iff];intro hh;rw[Nat.ble_eq] at hh;omega
 have mP:((2*n+1) % 2 == 1)=true:=by simp
 simp only[Id.append,hu,h1,h2,h3,hlx,tp,jN,hfx,hc,qv,mQ,mP,hfv,cond_true,cond_false,Bool.not_true]
def pc (h:IH) (n0 sz:Nat) (v:Value) (n:Nat) (cs:List Value) (k:Nat) (fam:Option Nat):Prop :=
 0<sz∧cs.length=n*sz∧v=.slice (some ⟨2*k,0,none⟩) n (2*n)∧0<n∧n0≤k∧k<h.n∧h.ext.get k=some (.cells cs sz fam)∧K2 h n0 k fam
variable {v:Value}{fam:Option Nat}{h:IH}{n0 n sz k:Nat}{cs:List Value}
theorem pc.acc (a:pc h n0 sz v n cs k fam):Acc h n0 sz v n cs:=⟨a.1,a.2.1,.inr ⟨k,fam,a.2.2⟩⟩
variable {h':IH}
def pc.other (a:pc h n0 sz v n cs k fam) (hn:h.n≤h'.n) (he:h'.ext.get k=h.ext.get k) (hf : ∀f,fam=some f→h'.bP.get f=h.bP.get f):pc h' n0 sz v n cs k fam:=by
 obtain⟨h1,h2,h3,h4,h5,h6,h7,h8⟩:=a
 refine⟨h1,h2,h3,h4,h5,by omega,by rw[he];exact h7,?_⟩
 cases fam with
 | none=>trivial
 | some f =>
  obtain⟨a1,a2,rest,a3,a4⟩:=h8
  exact⟨a1,by omega,rest,by rw[hf f rfl];exact a3,fun j hj=>⟨(a4 j hj).1,Nat.lt_of_lt_of_le (a4 j hj).2 hn⟩⟩
variable {m bytes:Nat}{x:Value}{P:Program}{t:TypeId}{new:List Value}
def pc.app {kk:Nat} (a:pc h n0 sz v n cs kk fam) (hT:jh P t=some (sz,bytes)) (sx:lF h sz x m new) (hm:0<m)
  (hc:new.all aB=true) (hsz:(n+m)*(bytes+1)≤1099511627776) :
  ∃h' f,append P h t v x=some (.slice (some ⟨2*h.n,0,none⟩) (n+m) (2*(n+m)),h')∧pc h' n0 sz (.slice (some ⟨2*h.n,0,none⟩) (n+m) (2*(n+m))) (n+m) (cs ++ new) h.n (some f)∧(fam=some f∨(fam=none∧f=h.n))∧h'.n=h.n+1∧h'.base=h.base ∧
   (∀j,j<h.n→j≠kk→h'.ext.get j=h.ext.get j)∧h'.ext.get kk=some (.cells cs sz (some f))∧(∀g,g<h.n→fam≠some g→h'.bP.get g=h.bP.get g):=by
 unfold jh at hT
 split at hT
 case h_2=>cases hT
 rename_i e hu
 split at hT
 case h_2=>cases hT
 rename_i zs h1 h2 h3
 simp only[cond_eq_ite] at hT
 split at hT
 case isTrue=>cases hT
 rename_i AV
 cases hT
 have jN:(sz == 0 || (!(Nat.ble bytes 65536) || !(zs.length == sz)))=false:=by simpa using AV
 have tp:(m == 0)=false:=by simp;omega
 have hln:new.length=m*sz∧bF h sz m x=some new∧lenOf x=some m:=by
  obtain⟨hz,hl,⟨rfl,rfl⟩|⟨b2,o2,k2,rfl,rfl|⟨row,a1,a2,a3⟩⟩⟩:=sx
  ·omega
  ·omega
  have hms : ¬m*sz=0:=by
   have:0<m*sz:=Nat.mul_pos hm hz
   omega
  refine⟨hl,?_,rfl⟩
  simp only[bF,cond_eq_ite,Nat.ble_eq,Nat.le_refl,if_true,beq_iff_eq,if_neg hms]
  rw[tH a1,if_pos a3,a2]
 obtain⟨hln,iF,hlx⟩:=hln
 obtain⟨hz,hl,rfl,hn,g1,g2,g3,g4⟩:=a
 have qv:Nat.ble ((n+m)*(bytes+1)) aN=true:=by rw[Nat.ble_eq];exact hsz
 have mQ:Nat.ble (n+m) (2*n / 2)=false:=by
  rw[Bool.eq_false_iff];intro hh;rw[Nat.ble_eq] at hh;omega
 have mP:(2*n % 2 == 1)=false:=by simp
 have hlen:(n == 2*n / 2 && Nat.blt 0 n && (2*kk) % 2 == 0)=true:=by
  have:2*n / 2=n:=by omega
  simp[this,Nat.blt,Nat.ble_eq];omega
 have rJ:(0+n*sz == cs.length && sz == sz)=true:=by simp[hl]
 have hk2:2*kk / 2=kk:=by omega
 have body : ∀f below,(∀j∈below,n0≤j∧j<h.n)→(n0≤f)→f<h.n+1→(∀g,g<h.n→fam≠some g→g≠f) →
   pc (grown h kk f cs sz [] below (cs.drop 0 ++ new) sz) n0 sz (.slice (some ⟨2*h.n,0,none⟩) (n+m) (2*(n+m))) (n+m) (cs ++ new) h.n (some f)∧(grown h kk f cs sz [] below (cs.drop 0 ++ new) sz).n=h.n+1∧(grown h kk f cs sz [] below (cs.drop 0 ++ new) sz).base=h.base ∧
   (∀j,j<h.n→j≠kk→(grown h kk f cs sz [] below (cs.drop 0 ++ new) sz).ext.get j=h.ext.get j)∧(grown h kk f cs sz [] below (cs.drop 0 ++ new) sz).ext.get kk=some (.cells cs sz (some f))∧(∀g,g<h.n→fam≠some g→(grown h kk f cs sz [] below (cs.drop 0 ++ new) sz).bP.get g=h.bP.get g):=by
  intro f below hbl hf1 hf2 hf3
  have cD : ∀j,(grown h kk f cs sz [] below (cs.drop 0 ++ new) sz).ext.get j=if j=h.n then some (.cells (cs ++ new) sz (some f)) else if j=kk then some (.cells cs sz (some f)) else h.ext.get j:=by
   intro j
   simp[grown,IH.dJ,Tr.bL]
  refine⟨⟨hz,by simp[hl,hln,Nat.add_mul],rfl,by omega,by omega,by simp[grown],by rw[cD,if_pos rfl],hf1,by simp[grown];omega,kk :: below,?_,fun j hj=>?_⟩,by simp[grown],rfl,fun j hj hne=>?_,?_,fun g hg hgf=>?_⟩
  ·simp[grown,Tr.bL]
  ·rcases List.mem_cons.1 hj with rfl|hj
   ·exact⟨g1,by simp[grown];omega⟩
   ·exact⟨(hbl j hj).1,by have:=(hbl j hj).2;simp[grown];omega⟩
  ·rw[cD,if_neg (by omega),if_neg hne]
  ·rw[cD,if_neg (by omega),if_pos rfl]
  ·simp only[grown,Tr.bL]
   rw[if_neg (hf3 g hg hgf)]
 cases fam with
 | none =>
  obtain⟨b1,b2,b3,b4,b5,b6⟩:=body h.n [] (fun _ h=>by cases h) (by omega) (by omega) (fun g hg _=>by omega)
  refine⟨_,h.n,?_,b1,.inr ⟨rfl,rfl⟩,b2,b3,b4,b5,b6⟩
  simp only[Id.append,hu,h1,h2,h3,hlx,tp,jN,iF,hc,qv,mQ,mP,hlen,hk2,g3,rJ,cond_true,cond_false,Bool.not_true]
 | some f =>
  obtain⟨f1,f2,rest,f3,f4⟩:=g4
  obtain⟨b1,b2,b3,b4,b5,b6⟩:=body f rest f4 f1 (by omega) (fun g hg hne e=>hne (by rw[e]))
  refine⟨_,f,?_,b1,.inl rfl,b2,b3,b4,b5,b6⟩
  have t1:(kk :: rest).takeWhile (· != kk) = []:=by simp
  have t2:((kk :: rest).dropWhile (· != kk)).drop 1=rest:=by simp
  simp only[Id.append,hu,h1,h2,h3,hlx,tp,jN,iF,hc,qv,mQ,mP,hlen,hk2,g3,rJ,f3,t1,t2,cond_true,cond_false,Bool.not_true]
def Gf (h:IH) (n0 sz:Nat) (v w:Value) (n:Nat) (cs ds:List Value):Prop :=
 (v=.slice none 0 0∧w=.slice none 0 0∧n=0∧cs = []∧ds = []) ∨
 ∃k fam j gam,pc h n0 sz v n cs k fam∧pc h n0 sz w n ds j gam∧k≠j ∧ ∀f,fam=some f→gam≠some f
variable {ds:List Value}{w:Value}
def Gf.sl (hz:0<sz) (a:Gf h n0 sz v w n cs ds):bH h sz v n cs∧bH h sz w n ds:=by
 rcases a with⟨rfl,rfl,rfl,rfl,rfl⟩|⟨k,fam,j,gam,a,b,_⟩
 ·exact⟨bH.nil _ hz,bH.nil _ hz⟩
 ·exact⟨a.acc.sl,b.acc.sl⟩
def Gf.ext (a:Gf h n0 sz v w n cs ds) (e:Ext h h'):Gf h' n0 sz v w n cs ds:=by
 rcases a with a|⟨k,fam,j,gam,a,b,c⟩
 ·exact .inl a
 ·have hf : ∀{k:Nat} {fam:Option Nat} {v:Value} {cs:List Value},pc h n0 sz v n cs k fam→pc h' n0 sz v n cs k fam:=fun a=>a.other e.n (e.get _ a.2.2.2.2.2.1) fun f hf=>e.bP f (by
   obtain⟨_,_,_,_,_,_,_,t⟩:=a
   subst hf
   exact t.2.1)
  exact .inr ⟨k,fam,j,gam,hf a,hf b,c⟩
def yB (hT:jh P t=some (sz,bytes)) (h:IH) (sx:lF h sz x m new) (hm:0<m) (hc:new.all aB=true) (hsz:m*(bytes+1)≤1099511627776) :
  append P h t (.slice none 0 0) x=some (.slice (some ⟨2*h.n,0,none⟩) m (2*m),h.new (.cells new sz none)):=by
 unfold jh at hT
 split at hT
 case h_2=>cases hT
 rename_i e hu
 split at hT
 case h_2=>cases hT
 rename_i zs h1 h2 h3
 simp only[cond_eq_ite] at hT
 split at hT
 case isTrue=>cases hT
 rename_i AV
 cases hT
 have jN:(sz == 0 || (!(Nat.ble bytes 65536) || !(zs.length == sz)))=false:=by simpa using AV
 obtain⟨hz,hl,⟨rfl,rfl⟩|⟨b2,o2,k2,rfl,rfl|⟨row,a1,a2,a3⟩⟩⟩:=sx
 ·omega
 ·omega
 have hms : ¬m*sz=0:=by
  have:0<m*sz:=Nat.mul_pos hm hz
  omega
 have tp:(m == 0)=false:=by simp;omega
 have iF:bF h sz m (.slice (some ⟨b2,o2,none⟩) m k2)=some new:=by
  simp only[bF,cond_eq_ite,Nat.ble_eq,Nat.le_refl,if_true,beq_iff_eq,if_neg hms]
  rw[tH a1,if_pos a3,a2]
 have qv:Nat.ble (m*(bytes+1)) aN=true:=by rw[Nat.ble_eq];exact hsz
 simp only[Id.append,hu,h1,h2,h3,lenOf,tp,jN,iF,hc,qv,cond_true,cond_false,Bool.not_true,BEq.rfl,Bool.and_self]
def IT (hz:0<sz) (hl:cs.length=m*sz) (hm:0<m) (h0:n0≤h.n):pc (h.new (.cells cs sz none)) n0 sz (.slice (some ⟨2*h.n,0,none⟩) m (2*m)) m cs h.n none :=
 ⟨hz,hl,rfl,hm,h0,by simp,ah _ _ rfl,trivial⟩


abbrev B8 (n:Nat):Value:=.int .u8 (n:Int)
abbrev B16 (n:Nat):Value:=.int .u16 (n:Int)
structure Dr6 (h:IH) (x:Value) (ps ls:List Nat) (u s:Nat):Prop where
 ex : ∃vp vl,x=.agg #[vp,B8 u,vl,B16 s]∧bH h 1 vp ps.length (ps.map B16)∧bH h 1 vl ls.length (ls.map B8)
 bp : ∀p∈ps,p<65536
 bl : ∀p∈ls,p<256
 bu:u<256
 bs:s<65536
 lp:ps.length<9223372036854775808
 ll:ls.length<9223372036854775808
def maxL:List Int→Int
 | []=>0
 | a :: l=>l.foldl max a
def wiL (l:List Nat):List Value:=l.flatMap wdC
theorem TZ (l:List Nat):(wiL l).length=l.length*8:=by
 induction l with
 | nil=>rfl
 | cons a l ih=>rw[wiL,List.flatMap_cons,List.length_append,aA,←wiL,ih,List.length_cons];omega
variable {l:List Nat}{i p:Nat}
def Xz (h:l[i]?=some p):((wiL l).drop (i*8)).take 8=wdC p:=by
 induction l generalizing i with
 | nil=>simp at h
 | cons a l ih =>
  rw[wiL,List.flatMap_cons,←wiL]
  cases i with
  | zero =>
   simp at h
   subst h
   rw[Nat.zero_mul,List.drop_zero,List.take_append_of_le_length (by rw[aA];omega),List.take_of_length_le (by rw[aA];omega)]
  | succ i =>
   simp at h
   rw[List.drop_append,aA,List.drop_of_length_le (by rw[aA];omega),List.nil_append,show(i+1)*8 - 8=i*8 by omega]
   exact ih h
theorem Gp (l:List Nat) (p:Nat):wiL (l ++ [p])=wiL l ++ wdC p:=by simp[wiL]
def ni (h:IH) (v:Value) (l:List Nat):Prop:=bH h 8 v l.length (wiL l)∧l.length≤1000000000 ∧ ∀n∈l,n<W8
variable {v:Value}{h h':IH}
def ni.aa (s:ni h v l) (e:aK h h'):ni h' v l:=⟨s.1.aa e,s.2⟩
def ni.ld (s:ni h v l) (e:aK h h') (hi:l[i]?=some p):load Proofs.Tryz.prog h' 30 (aP v (i*8))=some (wdV p):=by
 have hil:=(List.getElem?_eq_some_iff.1 hi).1
 rw[s.1.C6 e (by rw[TZ];omega) (by omega) VT Qx,Xz hi];rfl
def zG (n:Nat):List.take 8 (List.drop 0 (wdC n))=wdC n:=by rw[List.drop_zero,List.take_of_length_le (by rw[aA];omega)]
def ZF (l:List Nat):Prop:=∀n∈l,1≤wdI n
variable {x:Int}
def MV {h h':IH} {v:Value} {l:List Int} (s:ZO h v l) (e:aK h h') {i:Nat} (hi:l[i]?=some x):load Proofs.Tryz.prog h' 3 (aP v i)=some (KI x):=by
 have hil:=(List.getElem?_eq_some_iff.1 hi).1
 rw[s.1.ld e (by simpa using hil) ag3,List.getElem?_map,hi];rfl
def Ys {H:IH} {k:Nat} (g:H.ext.get k=some (.cells [KI x] 0 none)):load Proofs.Tryz.prog H 3 (ptr (2*k) 0)=some (KI x):=by
 have r:=aj g
 simp -dsimp (disch:=omega) only[wpS,ld3,r]
def Gt {n:Nat} (hn:n<W8):DP (wdI n):=by
 have hw:W8=2 ^ 512:=by decide +kernel
 have k1:(wdI n).natAbs≤2 ^ 512:=by
  rw[←hw]
  unfold wdI
  have:=eP
  split<;>omega
 exact aU (k:=512) k1 (by omega)
def tgt (most level s:Int) (w:Nat):Int:=wdI w*((2 ^ ((most - s)*level).toNat:Nat):Int)
def mapZ (z:Nat→Nat→Int) (l:List Nat) (i:Nat):List Nat:=(List.range i).map fun j=>aY (z j (l.getD j 0))
def fitZ (z:Nat→Nat→Int) (l:List Nat) (i:Nat):Prop:=∀j,j<i→InW (z j (l.getD j 0))
def XJ (s:List Int) (level:Int) (i p:Nat):Int:=tgt (maxL s) level (s.getD i 0) p
open Classical in
noncomputable def Wa (ws:List Nat) (s:List Int) (level:Int):Int:=if Yu s [level]≠0 then 340 else if ws.length≠s.length ∨ ¬ZF ws then 2 else if fitZ (XJ s level) ws ws.length then 0 else 6



open Go.Proofs.Tryz (prog)
open Nat renaming reduceAdd→zA,reduceEqDiff→zE,reduceLeDiff→zL
set_option maxHeartbeats 16000000
def xK (h:IH) (v:Value) (l:List Nat):Prop:=bH h 1 v l.length (l.map B8)∧l.length<9223372036854775808 ∧ ∀x∈l,x<256
variable {l:List Nat}{v:Value}{h h':IH}
def xK.aa (s:xK h v l) (e:aK h h'):xK h' v l:=⟨s.1.aa e,s.2⟩
def xK.ld (s:xK h v l) (e:aK h h') {i:Nat} {x:Nat} (hi:l[i]?=some x):load prog h' 5 (aP v i)=some (B8 x):=by
 have hil:=(List.getElem?_eq_some_iff.1 hi).1
 rw[s.1.ld e (by simpa using hil) ag5,List.getElem?_map,hi];rfl
def Am (P:Program) (t:TypeId) (k:IntKind) (ox oy:Operand) (a n:Nat) (hn:0<n):binop P .rem t ox oy (.int k (a:Int)) (.int k (n:Int))=some (.int k ((a % n:Nat):Int)):=by
 rw[kh P t ox oy (by omega),Int.tmod_eq_emod_of_nonneg (by omega),Int.natCast_emod]
def FB {sz:Nat} (hv:xK h v l) (n:Nat) (hn:n≤100) :
  WV prog (.func (.func 10) #[] #[]) [.agg #[B8 sz,v],KN n] h fun r h'=>Ext h h' ∧ ∃out,ni h' r out∧out.length=n ∧ ∀p∈out,1≤wdI p∧wdI p≤9:=by
 have cv:=hv.1.cells
 have co:=hv.1.cok
 have g0:(h.new (.cells [B8 sz,v] 0 none)).ext.get h.n=some (.cells [B8 sz,v] 0 none):=by simp (disch:=omega) only[ah]
 have E0:Ext h (h.new (.cells [B8 sz,v] 0 none)):=(Ext.refl h).new _
 refine enter (nt:=32) (rs:=[.tmp 4]) Proofs.Tryz.func10 rfl rfl rfl (by simp) ?_
 simp -dsimp (disch:=omega) only[wpS,zE,zA]
 obtain⟨Hb,hHb⟩:=aT (h.new (.cells [B8 sz,v] 0 none))
 have nb:Hb.n=h.n+1:=by rw[hHb];rfl
 rw[←hHb] at g0 E0 ⊢
 clear hHb
 refine loop (fun m fr hh => ∃(i:Nat) (out:Value) (l':List Nat),i+m=n∧l'.length=i∧(∀p∈l',p<W8∧1≤wdI p∧wdI p≤9)∧Ext Hb hh∧Acc hh Hb.n 8 out l'.length (wiL l')∧ab fr 1=some (KN n)∧ab fr 2=some (ptr (2*h.n) 0)∧ab fr 5=some out∧ab fr 6=some (KN i)) n
  ⟨0,.slice none 0 0,[],by omega,rfl,(fun p hp=>by cases hp),Ext.refl _,Acc.nil _ _ (by omega),by simp⟩ ?_
 rintro m fr hh ⟨i,out,l',him,hil,hlt,hE,hA,f1,f2,f5,f6⟩
 have hg:=hE.kept (by omega) g0
 have hnn:=hE.n
 have lv:=hv.2.1
 have hEh:=E0.trans hE
 simp -dsimp (disch:=omega) only[wpS,zE,f1,f6]
 refine au ?_ ?_<;>intro hc<;>simp only[decide_eq_true_eq,decide_eq_false_iff_not] at hc
 ·by_cases c:i<l.length
  ·obtain⟨x,hx⟩:=iC (l:=l) (i:=i) c
   have xb:=hv.2.2 x (List.mem_of_getElem? hx)
   have hr : ∀ox oy,binop prog .rem 5 ox oy (B8 x) (.int .u8 9)=some (.int .u8 ((x % 9:Nat):Int)):=fun ox oy=>Am _ _ .u8 ox oy x 9 (by omega)
   simp -dsimp (disch:=omega) only[wpS,wpT,zE,Fv,Vf,Iu,f2,f5,f6,aj hg,hv.1.len Us,hv.1.idx es22 c,hv.ld hEh.aa hx,hr]
   refine call (cU (1+((x % 9:Nat):Int)) ⟨by omega,by omega⟩) ?_
   rintro _ h1 ⟨X1,rfl⟩
   have wi:=jL (n:=1+((x % 9:Nat):Int)) ⟨by omega,by omega⟩
   have wz:aY (1+((x % 9:Nat):Int))<W8∧1≤wdI (aY (1+((x % 9:Nat):Int)))∧wdI (aY (1+((x % 9:Nat):Int)))≤9:=⟨ec wi,by rw[cB wi];omega,by rw[cB wi];omega⟩
   have m1:=X1.n
   obtain⟨ef,h8,hap,hA8,hG8,hE8⟩:=(hA.ext X1).tq (P:=prog) (t:=42) ap42 (m:=1) (new:=wdC (aY (1+((x % 9:Nat):Int)))) (by omega) (by rw[aA]) (cm _) (by omega) (by omega) (hE.trans X1) (by omega)
   have xj:append prog (h1.new (.cells (wdC (aY (1+((x % 9:Nat):Int)))) 8 none)) 42 out (.slice (some ⟨2*h1.n,0,none⟩) 1 3)=some (ef,h8):=hap
   simp -dsimp (disch:=omega) only[wpS,wpT,zE,zL,zA,bs42,NB,f6,cM,aA,eK,xj]
   refine⟨m - 1,by omega,i+1,ef,l' ++ [aY (1+((x % 9:Nat):Int))],by omega,by simp[hil],?_,hE8,?_,by simp[f1,f2]⟩
   ·intro q hq
    rcases List.mem_append.1 hq with hq|hq
    ·exact hlt q hq
    ·rw[List.mem_singleton.1 hq];exact wz
   ·rw[Gp,List.length_append]
    exact hA8
  ·simp -dsimp (disch:=omega) only[wpS,wpT,zE,Fv,Vf,f2,f5,f6,aj hg,hv.1.len Us]
   refine call (cU 1 ⟨by omega,by omega⟩) ?_
   rintro _ h1 ⟨X1,rfl⟩
   have wi:=jL (n:=1) ⟨by omega,by omega⟩
   have wz:aY 1<W8∧1≤wdI (aY 1)∧wdI (aY 1)≤9:=⟨ec wi,by rw[cB wi];omega,by rw[cB wi];omega⟩
   have m1:=X1.n
   obtain⟨ef,h8,hap,hA8,hG8,hE8⟩:=(hA.ext X1).tq (P:=prog) (t:=42) ap42 (m:=1) (new:=wdC (aY 1)) (by omega) (by rw[aA]) (cm _) (by omega) (by omega) (hE.trans X1) (by omega)
   have xj:append prog (h1.new (.cells (wdC (aY 1)) 8 none)) 42 out (.slice (some ⟨2*h1.n,0,none⟩) 1 3)=some (ef,h8):=hap
   simp -dsimp (disch:=omega) only[wpS,wpT,zE,zL,zA,bs42,NB,f6,cM,aA,eK,xj]
   refine⟨m - 1,by omega,i+1,ef,l' ++ [aY 1],by omega,by simp[hil],?_,hE8,?_,by simp[f1,f2]⟩
   ·intro q hq
    rcases List.mem_append.1 hq with hq|hq
    ·exact hlt q hq
    ·rw[List.mem_singleton.1 hq];exact wz
   ·rw[Gp,List.length_append]
    exact hA8
 ·simp -dsimp (disch:=omega) only[wpS,wpT,zE,f5]
  exact⟨hEh,l',⟨hA.sl,by omega,fun p hp=>(hlt p hp).1⟩,by omega,fun p hp=>(hlt p hp).2⟩
end Go.Id
