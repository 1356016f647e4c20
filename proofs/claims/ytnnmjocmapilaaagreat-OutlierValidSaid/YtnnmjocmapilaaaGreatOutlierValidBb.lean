/-
  The ideal machine written for the kernel, third part: regions, code, calls.
-/
import Derived.Test.YtnnmjocmapilaaaGreatOutlierValidBa
import Derived.Test.YtnnmjocmapilaaaGreatOutlierValidAy
set_option linter.unusedVariables false
set_option linter.unusedSimpArgs false
set_option linter.defProp false
set_option linter.deprecated false
namespace Go.Id
open Go
noncomputable section
def J1 (ops:List Oper) (g:Nat×Bool) (fr:Fr):Option Bool:=bO ((ops[g.1]?).bind (·.dst)) fun d=>bO (vg fr d) fun v=>match v with
 | .bool b=>some (b == g.2)
 | .tuple _=>some false
 | _=>none
theorem ET (ops:List Oper) (o:Oper) (j:Nat) (w:Bool) (fr:Fr) (hg:o.guard=some (j,w)):J1 ops (j,w) fr=bA ops o fr:=by
 unfold J1 bA
 rw[hg]
 simp only[oq]
 cases(ops[j]?).bind (·.dst) with
 | none=>rfl
 | some d =>
  simp only[aW]
  cases ab fr d with
  | none=>rfl
  | some v=>cases v<;>rfl
def stepG (E:Env) (call:a8) (nt:Nat) (o:Oper) (fr:Fr) (h:IH):Option (Fr×IH):=bO (Wj o.op E call fr h) (Prod.rec fun v h=>bO (P1 nt fr o.dst v) fun fr=>some (fr,h))
def Bv (E:Env) (call:a8) (nt:Nat) (ops:List Oper) (o:Oper) (fr:Fr) (h:IH):Option (Fr×IH) :=
 Option.rec (motive:=fun _=>Option (Fr×IH)) (stepG E call nt o fr h) (fun g=>bO (J1 ops g fr) fun w=>iB w (stepG E call nt o fr h) (bO (P1 nt fr o.dst undef) fun fr=>some (fr,h))) o.guard
theorem Fj (E:Env) (call:a8) (nt:Nat) (o:Oper) (fr:Fr) (h:IH):stepG E call nt o fr h=match cU E call fr o.op h with
  | some (v,h)=>(mC nt fr o.dst v).map (·,h)
  | none=>none:=by
 unfold stepG
 rw[Kn]
 cases cU E call fr o.op h with
 | none=>rfl
 | some p =>
  obtain⟨v,h⟩:=p
  simp only[aW,Dt]
  cases mC nt fr o.dst v<;>rfl
theorem Fk (E:Env) (call:a8) (nt:Nat) (ops:List Oper) (o:Oper) (fr:Fr) (h:IH):Bv E call nt ops o fr h=cS E call nt ops o fr h:=by
 unfold Bv cS
 cases hg:o.guard with
 | none =>
  rw[show bA ops o fr=some true from by unfold bA;rw[hg]]
  exact Fj E call nt o fr h
 | some g =>
  obtain⟨j,w⟩:=g
  simp only
  rw[ET ops o j w fr hg]
  cases bA ops o fr with
  | none=>rfl
  | some b =>
   cases b with
   | true=>exact Fj E call nt o fr h
   | false =>
    simp only[aW,qP,Dt]
    cases mC nt fr o.dst undef<;>rfl
def rG (E:Env) (call:a8) (nt:Nat) (ops l:List Oper) (fr:Fr) (h:IH):Option (Fr×IH):=List.rec (motive:=fun _=>Fr→IH→Option (Fr×IH)) (fun fr h=>some (fr,h)) (fun o _ ih fr h=>bO (Bv E call nt ops o fr h) (Prod.rec ih)) l fr h
theorem tq (E:Env) (call:a8) (nt:Nat) (ops:List Oper) : ∀(l:List Oper) (fr:Fr) (h:IH),rG E call nt ops l fr h=fi E call nt ops l fr h
 | [],_,_=>rfl
 | o :: l,fr,h=>by
  show bO (Bv E call nt ops o fr h) (Prod.rec (rG E call nt ops l))=_
  rw[Fk,fi]
  cases cS E call nt ops o fr h with
  | none=>rfl
  | some p=>exact tq E call nt ops l p.1 p.2
def C7 (E:Env) (call:a8) (nt:Nat) (ops l:List Oper) (fr:Fr) (h:IH):Option (List (Fr×IH)):=List.rec (motive:=fun _=>Fr→IH→Option (List (Fr×IH))) (fun fr h=>some [(fr,h)]) (fun o _ ih fr h=>bO (Bv E call nt ops o fr h) (Prod.rec fun fr' h'=>bO (ih fr' h') fun l=>some ((fr,h) :: l))) l fr h
theorem Bp (E:Env) (call:a8) (nt:Nat) (ops:List Oper) : ∀(l:List Oper) (fr:Fr) (h:IH),C7 E call nt ops l fr h=trace E call nt ops l fr h
 | [],_,_=>rfl
 | o :: l,fr,h=>by
  show bO (Bv E call nt ops o fr h) (Prod.rec fun fr' h'=>bO (C7 E call nt ops l fr' h') fun l=>some ((fr,h) :: l))=_
  rw[Fk,trace]
  cases cS E call nt ops o fr h with
  | none=>rfl
  | some p =>
   obtain⟨fr',h'⟩:=p
   simp only[aW,Bp E call nt ops l]
   cases trace E call nt ops l fr' h'<;>rfl
def TT (E:Env) (fr:Fr) (o:Op) (h:IH):Option (Value×IH):=Wj o E (fun _ _ _=>none) fr h
theorem Ll (E:Env) (fr:Fr) (o:Op) (h:IH):TT E fr o h=iop E.P fr o h:=by
 unfold TT
 rw[Kn]
 cases o<;>try rfl
 rename_i c
 simp only[cU,iop]
 cases c.callee with
 | value f=>simp only;cases opd fr f<;>cases gA fr c.args.toList<;>rfl
 | _=>rfl
def vT (E:Env) (fr:Fr) (o:Op) (h h':IH):Bool :=
 match TT E fr o h,TT E fr o h' with
 | some (v,_),some (v',_)=>eqV v v'
 | _,_=>false
def J0 (ops:List Oper) (o:Oper) (fr:Fr):Option Bool:=Option.rec (motive:=fun _=>Option Bool) (some true) (fun g=>J1 ops g fr) o.guard
theorem O8 (ops:List Oper) (o:Oper) (fr:Fr):J0 ops o fr=bA ops o fr:=by
 unfold J0
 cases hg:o.guard with
 | none=>unfold bA;rw[hg]
 | some g=>exact ET ops o g.1 g.2 fr hg
def Df (E:Env) (ops:List Oper) (tr:List (Fr×IH)) (pl:List (Nat×List Nat)):Bool :=
 pl.all fun e=>match ops[e.1]?,tr[e.1]? with
  | some o,some (fr,h)=>match J0 ops o fr with
   | some true=>e.2.all fun p=>match tr[p]? with
    | some (_,h')=>vT E fr o.op h h'
    | none=>false
   | _=>true
  | _,_=>false
theorem HS (E:Env) (ops:List Oper) (tr:List (Fr×IH)) (pl:List (Nat×List Nat)):Df E ops tr pl=steady E.P ops tr pl:=by
 have e:vT E=gE E.P:=by
  funext fr o h h'
  unfold vT gE
  rw[Ll,Ll];rfl
 have e2:J0=bA:=by funext ops o fr;exact O8 ops o fr
 unfold Df steady
 rw[e,e2];rfl
def P6 (ops:List Oper):Option (List (Nat×List Nat)):=bif lh ops then some (xX ops) else none
def Eb (E:Env) (call:a8) (nt:Nat) (ops:List Oper) (fr:Fr) (h:IH):Option (Fr×IH):=bO (P6 ops) (List.rec (motive:=fun _=>Option (Fr×IH)) (rG E call nt ops ops fr h) (fun a l _=>bO (C7 E call nt ops ops fr h) fun tr=>iB (Df E ops tr (a :: l)) tr[ops.length]? none))
theorem yT (E:Env) (call:a8) (nt:Nat) (ops:List Oper) : ∀(l:List Oper) (fr:Fr) (h:IH),(match trace E call nt ops l fr h with|none=>none|some tr=>tr[l.length]?)=fi E call nt ops l fr h
 | [],_,_=>rfl
 | o :: l,fr,h=>by
  rw[trace,fi]
  cases cS E call nt ops o fr h with
  | none=>rfl
  | some p =>
   obtain⟨fr',h'⟩:=p
   simp only
   rw[←yT E call nt ops l fr' h']
   cases trace E call nt ops l fr' h'<;>rfl
theorem Od (E:Env) (call:a8) (nt:Nat) (ops:List Oper) (fr:Fr) (h:IH):Eb E call nt ops fr h=gH E call nt ops fr h:=by
 unfold Eb gH P6
 cases ho:lh ops with
 | false=>cases trace E call nt ops ops fr h<;>rfl
 | true =>
  simp only[cond_true,aW,Bool.true_and]
  cases hp:xX ops with
  | nil =>
   show rG E call nt ops ops fr h=_
   rw[tq,←yT]
   cases trace E call nt ops ops fr h<;>rfl
  | cons a l =>
   show bO (C7 E call nt ops ops fr h) _=_
   simp only[Bp,HS,eh]
   cases trace E call nt ops ops fr h<;>rfl
abbrev Sm:=Fr→IH→Out
def UX:Sm:=fun fr h=>some (.normal,fr,h)
def Z5 (i:Nat):Sm:=fun fr h=>some (.exit i,fr,h)
def retC:Sm:=fun fr h=>some (.ret,fr,h)
def noC:Sm:=fun _ _=>none
def AT (k:Sm) (p:bf×Fr×IH):Out:=Prod.rec (fun e q=>bf.rec (motive:=fun _=>Out) (Prod.rec (fun fr h=>k fr h) q) (fun i=>some (.exit i,q)) (some (.ret,q)) e) p
def seqC (a b:Sm):Sm:=fun fr h=>bO (a fr h) (AT b)
def Zac (c:Operand) (a b:Sm):Sm:=fun fr h=>bO (cL c fr) fun v=>match v with
 | .bool t=>iB t a b fr h
 | _=>none
def JH (id:Nat) (b:Sm):Sm:=fun fr h=>bO (b fr h) (Prod.rec fun e q=>bf.rec (motive:=fun _=>Out) (some (.normal,q)) (fun i=>iB (Nat.beq i id) (some (.normal,q)) (some (.exit i,q))) (some (.ret,q)) e)
def IX (b:Sm) (n:Nat):Sm:=Nat.rec (motive:=fun _=>Sm) noC (fun _ ih fr h=>bO (b fr h) (AT ih)) n
theorem CN (k:Sm) (o:Out):bO o (AT k)=match o with
  | some (.normal,fr,h)=>k fr h
  | some (.exit i,fr,h)=>some (.exit i,fr,h)
  | some (.ret,fr,h)=>some (.ret,fr,h)
  | none=>none:=by
 cases o with
 | none=>rfl
 | some p =>
  obtain⟨e,fr,h⟩:=p
  cases e<;>rfl
theorem B7 (b:Sm) : ∀n,IX b n=mf b n
 | 0=>by funext fr h;rfl
 | n+1=>by
  funext fr h
  show bO (b fr h) (AT (IX b n))=_
  rw[CN,B7 b n];rfl
def DI (b:Code):Bool:=match b with
 | .seq (.region _ ops draw) _=>(qJ ops.toList draw).isSome
 | _=>false
def Qz (E:Env) (call:a8) (fn:FuncId) (nt:Nat) (rd:Option Nat) (n:Nat) (b:Code) (ih:Sm):Sm:=iB (DI b) (evC E call fn nt rd n (.loop b)) (IX ih n)
def Lg {β:Type} (fr:Fr) (l:List Nat) (k:Fr→β):β:=List.rec (motive:=fun _=>(Fr→β)→β) (fun k=>k []) (fun t _ ih k=>Option.rec (motive:=fun _=>β) (ih k) (fun v=>ih fun r=>k ((t,v) :: r)) (vg fr t)) l k
theorem zZ {β:Type} (fr:Fr) : ∀(l:List Nat) (k:Fr→β),Lg fr l k=k (dV fr l)
 | [],_=>rfl
 | t :: l,k=>by
  show Option.rec (motive:=fun _=>β) (Lg fr l k) (fun v=>Lg fr l fun r=>k ((t,v) :: r)) (vg fr t)=_
  rw[oq,dV]
  cases ab fr t with
  | none=>exact zZ fr l k
  | some v=>exact zZ fr l _
def Lr {β:Type} (E:Env) (fn:FuncId) (id:Nat) (fr:Fr) (k:Fr→β):β:=Option.rec (motive:=fun _=>β) (k fr) (fun l=>Lg fr l k) (E.lv fn id)
theorem QU {β:Type} (E:Env) (fn:FuncId) (id:Nat) (fr:Fr) (k:Fr→β):Lr E fn id fr k=k (gM E fn id fr):=by
 unfold Lr gM
 cases E.lv fn id with
 | none=>rfl
 | some l=>exact zZ fr l k
def S8 (E:Env) (call:a8) (fn:FuncId) (nt:Nat) (id:Nat) (ops:Array Oper) (draw:Bool):Sm:=fun fr h=>Lr E fn id fr fun fr=>bO (iB draw (Eb E call nt ops.toList fr h) (rG E call nt ops.toList ops.toList fr h)) fun q=>some (.normal,q)
def mQ (h:IH) (k:Nat):Option gT:=bO (ug h.ext k) fun o=>match o with
 | .loop r=>some r
 | _=>none
theorem tF (h:IH) (k:Nat):mQ h k=fj h k:=by
 unfold mQ fj
 rw[lU]
 cases h.ext.get k with
 | none=>rfl
 | some o=>cases o<;>rfl
def PN (h:IH) (rd:Option Nat):Bool:=Option.rec (motive:=fun _=>Bool) true (fun l=>(mQ h l).isSome) rd
theorem MS (h:IH) (rd:Option Nat):PN h rd=oR h rd:=by
 cases rd with
 | none=>rfl
 | some l =>
  show(mQ h l).isSome=(fj h l).isSome
  rw[tF]
def Ip (E:Env) (call:a8) (fn:FuncId) (nt:Nat) (rd:Option Nat) (f:Operand) (params:Array Tmp) (assign body:Code):Sm:=fun fr h =>
 iB (PN h rd) (bO (cL f fr) fun fv=>Nu h (.loop { state:=.ready,pending:=none,fn,nt,fr,params:=params.toList,assign,body }) fun k h0=>fN (Nat.mul 2 k) fun k2 =>
  bO (call fv [.func (.yield k2) #[] #[]] h0) (Prod.rec fun _ h1=>bO (mQ h1 k) fun r=>iB (r.state == .busy) none (bO (tQ r.pending) fun e=>Ie h1 k .dead fun h=>some (e,fr,h)))) none
theorem M3 (E:Env) (call:a8) (fn:FuncId) (nt:Nat) (rd:Option Nat) (f:Operand) (params:Array Tmp) (assign body:Code) (fr:Fr) (h:IH):Ip E call fn nt rd f params assign body fr h=jX E call fn nt rd f params.toList assign body fr h:=by
 unfold Ip jX
 simp only[yq,dO,MS,tF,ck,Dn,eh]
 cases oR h rd with
 | false=>rfl
 | true =>
  simp only[cond_true]
  cases opd fr f with
  | none=>rfl
  | some fv =>
   simp only[aW]
   show bO (call fv [.func (.yield (2*h.n)) #[] #[]] _) _=_
   cases call fv [.func (.yield (2*h.n)) #[] #[]] (h.new (.loop { state:=.ready,pending:=none,fn,nt,fr,params:=params.toList,assign,body })) with
   | none=>rfl
   | some p =>
    obtain⟨v,h1⟩:=p
    simp only[aW]
    cases fj h1 h.n with
    | none=>rfl
    | some r =>
     simp only[aW]
     cases r.state == .busy with
     | true=>rfl
     | false =>
      simp only[cond_false]
      cases tQ r.pending<;>rfl
def evF (E:Env) (call:a8) (fn:FuncId) (nt:Nat) (rd:Option Nat) (n:Nat) (c:Code):Sm:=Code.rec (motive:=fun _=>Sm) UX (fun id ops draw=>S8 E call fn nt id ops draw) (fun _ _ a b=>seqC a b) (fun c _ _ a b=>Zac c a b) (fun id _ b=>JH id b) (fun b ih=>Qz E call fn nt rd n b ih)
 (fun f ps a b _ _=>Ip E call fn nt rd f ps a b) Z5 (fun _ b=>b) (fun _=>UX) (fun _=>noC) retC (fun _=>noC) c
theorem ph (E:Env) (call:a8) (fn:FuncId) (nt:Nat) (rd:Option Nat) (n:Nat) : ∀(c:Code),evF E call fn nt rd n c=evC E call fn nt rd n c
 | .skip=>by funext fr h;rw[evC];rfl
 | .label _=>by funext fr h;rw[evC];rfl
 | .region id ops draw=>by
  funext fr h
  show Lr E fn id fr (fun fr=>bO (iB draw (Eb E call nt ops.toList fr h) (rG E call nt ops.toList ops.toList fr h)) fun q=>some (bf.normal,q))=_
  rw[evC,QU,eh,Od,tq]
  cases(bif draw then gH E call nt ops.toList (gM E fn id fr) h else fi E call nt ops.toList ops.toList (gM E fn id fr) h)<;>rfl
 | .seq a b=>by
  funext fr h
  show bO (evF E call fn nt rd n a fr h) (AT (evF E call fn nt rd n b))=_
  rw[ph E call fn nt rd n a,ph E call fn nt rd n b,CN,evC]
  cases evC E call fn nt rd n a fr h with
  | none=>rfl
  | some p=>rfl
 | .cond c a b=>by
  funext fr h
  show bO (cL c fr) _=_
  simp only[evC,ck]
  show(bO (opd fr c) fun v=>match v with|.bool t=>iB t (evF E call fn nt rd n a) (evF E call fn nt rd n b) fr h|_=>none)=_
  rw[ph E call fn nt rd n a,ph E call fn nt rd n b]
  cases opd fr c with
  | none=>rfl
  | some v =>
   cases v with
   | bool t=>cases t<;>rfl
   | _=>rfl
 | .block id b=>by
  funext fr h
  show JH id (evF E call fn nt rd n b) fr h=_
  rw[ph E call fn nt rd n b,evC]
  unfold JH
  cases evC E call fn nt rd n b fr h with
  | none=>rfl
  | some p =>
   obtain⟨e,fr,h⟩:=p
   cases e with
   | exit i =>
    show iB (Nat.beq i id) _ _=_
    rw[eh]
    simp only[kP]
   | _=>rfl
 | .loop b=>by
  funext fr h
  show Qz E call fn nt rd n b (evF E call fn nt rd n b) fr h=_
  rw[ph E call fn nt rd n b]
  unfold Qz
  cases hm:DI b with
  | true=>rfl
  | false =>
   rw[qP,B7]
   cases b with
   | seq a rest =>
    cases a with
    | region id ops draw =>
     rw[evC]
     have hn:qJ ops.toList draw=none:=by
      cases ho:qJ ops.toList draw with
      | none=>rfl
      | some x=>rw[DI,ho] at hm;cases hm
     rw[hn]
    | _=>rw[evC];intro _ _ _ _ h;cases h
   | _=>rw[evC];intro _ _ _ _ h;cases h
 | .scope b=>by
  show evF E call fn nt rd n b=_
  rw[ph E call fn nt rd n b]
  funext fr h;rw[evC]
 | .rangeFunc f ps a b=>by
  funext fr h
  rw[evC];exact M3 E call fn nt rd f ps a b fr h
 | .exit i=>by funext fr h;rw[evC];rfl
 | .ret=>by funext fr h;rw[evC];rfl
 | .goto _=>by funext fr h;rw[evC];rfl
 | .refuse _=>by funext fr h;rw[evC];rfl
def Ds (P:Program) (fr:Fr) (h:IH) (r:ResultVar):Option Value:=match r with
 | .tmp t=>vg fr t
 | .cell a t=>bO (vg fr a) fun v=>KZ P h t v
def uF (P:Program) (fr:Fr) (h:IH) (l:List ResultVar):Option (List Value):=List.rec (motive:=fun _=>Option (List Value)) (some []) (fun r _ ih=>bO (Ds P fr h r) fun v=>bO ih fun vs=>some (v :: vs)) l
theorem xm (P:Program) (fr:Fr) (h:IH) : ∀l,uF P fr h l=bd P fr h l
 | []=>rfl
 | r :: l=>by
  show bO (Ds P fr h r) (fun v=>bO (uF P fr h l) fun vs=>some (v :: vs))=_
  rw[xm P fr h l,bd,show Ds P fr h r=gI P fr h r from ?_]
  ·cases gI P fr h r<;>cases bd P fr h l<;>rfl
  ·cases r with
   | tmp t=>exact oq fr t
   | cell a t =>
    show bO (vg fr a) _=_
    rw[oq]
    simp only[gI,GC]
    cases ab fr a<;>rfl
def Rk (l:List Value):Fr:=List.rec (motive:=fun _=>Nat→Fr) (fun _ => []) (fun v _ ih i=>(i,v) :: ih (Nat.succ i)) l 0
theorem Cq : ∀(l:List Value) (i:Nat),List.rec (motive:=fun _=>Nat→Fr) (fun _ => []) (fun v _ ih i=>(i,v) :: ih (Nat.succ i)) l i=dD i l
 | [],_=>rfl
 | v :: l,i=>congrArg ((i,v) :: ·) (Cq l (i+1))
theorem Oa (l:List Value):Rk l=dD 0 l:=Cq l 0
def R4 (E:Env) (call:a8) (n:Nat) (f:FuncId) (fn:Func) (args:List Value) (h:IH) (c:Code):Option (Value×IH) :=
 iB (Nat.ble (zW args) fn.ntmps) (bO (evF E call f fn.ntmps none n c (Rk args) h) (Prod.rec fun e q=>bf.rec (motive:=fun _=>Option (Value×IH))
  (Prod.rec (fun fr h=>bO (uF E.P fr h fn.results.toList) fun vs=>some (single vs,h)) q) (fun _=>none) (Prod.rec (fun fr h=>bO (uF E.P fr h fn.results.toList) fun vs=>some (single vs,h)) q) e)) none
def yC (E:Env) (call:a8) (n:Nat) (f:FuncId) (args:List Value) (h:IH):Option (Value×IH):=Option.rec (motive:=fun _=>Option (Value×IH))
 (bO E.P.funcs[f]? fun fn=>Option.rec (motive:=fun _=>Option (Value×IH)) (okV h (mw fn.name args)) (R4 E call n f fn args h) fn.body) (fun g=>g args h) (E.rZ f)
theorem JE (E:Env) (call:a8) (n:Nat) (f:FuncId) (args:List Value) (h:IH):yC E call n f args h=nD E call n f args h:=by
 unfold yC nD
 cases E.rZ f with
 | some g=>rfl
 | none =>
  cases E.P.funcs[f]? with
  | none=>rfl
  | some fn =>
   simp only[aW]
   cases fn.body with
   | none=>exact jG _ _
   | some c =>
    show R4 E call n f fn args h c=bif Nat.ble args.length fn.ntmps then _ else none
    unfold R4
    rw[j4,eh,ph,Oa]
    simp only[xm]
    cases Nat.ble args.length fn.ntmps with
    | false=>rfl
    | true =>
     simp only[cond_true]
     cases evC E call f fn.ntmps none n c (dD 0 args) h with
     | none=>rfl
     | some p =>
      obtain⟨e,fr,h⟩:=p
      cases e with
      | exit i=>rfl
      | normal =>
       show bO (bd E.P fr h fn.results.toList) _=(bd E.P fr h fn.results.toList).map _
       cases bd E.P fr h fn.results.toList<;>rfl
      | ret =>
       show bO (bd E.P fr h fn.results.toList) _=(bd E.P fr h fn.results.toList).map _
       cases bd E.P fr h fn.results.toList<;>rfl
def Dy (nt:Nat) (l:List Nat) (vs:List Value) (fr:Fr):Option Fr:=List.rec (motive:=fun _=>List Value→Fr→Option Fr) (fun vs fr=>List.rec (motive:=fun _=>Option Fr) (some fr) (fun _ _ _=>none) vs) (fun t _ ih vs fr=>List.rec (motive:=fun _=>Option Fr) none (fun v vs _=>bO (P1 nt fr (some t) v) (ih vs)) vs) l vs fr
theorem zF (nt:Nat) : ∀(l:List Nat) (vs:List Value) (fr:Fr),Dy nt l vs fr=dQ nt l vs fr
 | [],[],_=>rfl
 | [],_ :: _,_=>rfl
 | _ :: _,[],_=>rfl
 | t :: l,v :: vs,fr=>by
  show bO (P1 nt fr (some t) v) (Dy nt l vs)=_
  rw[Dt,dQ]
  cases mC nt fr (some t) v with
  | none=>rfl
  | some fr=>exact zF nt l vs fr
def CR (E:Env) (call:a8) (n:Nat) (l:Nat) (args:List Value) (h:IH):Option (Value×IH) :=
 bO (mQ h l) fun r=>bO (Dy r.nt r.params args r.fr) fun fr=>bO (evF E call r.fn r.nt (some l) n r.assign fr h) (Prod.rec fun e q=>bf.rec (motive:=fun _=>Option (Value×IH)) (Prod.rec (fun fr h=>bO (mQ h l) fun r1=>iB (r1.state == .ready)
  (Ie h l (.loop { r1 with state:=.busy }) fun h=>bO (evF E call r.fn r.nt (some l) n r.body fr h) (Prod.rec fun e q=>Prod.rec (fun _ h=>bO (mQ h l) fun r2=>bf.rec (motive:=fun _=>Option (Value×IH))
   (Ie h l (.loop { r2 with state:=.ready,pending:=none }) fun h=>some (.bool true,h))
   (fun i=>Ie h l (.loop { r2 with state:=.done,pending:=some (.exit i) }) fun h=>some (.bool false,h))
   (Ie h l (.loop { r2 with state:=.done,pending:=some .ret }) fun h=>some (.bool false,h)) e) q)) none) q) (fun _=>none) none e)
theorem Mn (E:Env) (call:a8) (n:Nat) (l:Nat) (args:List Value) (h:IH):CR E call n l args h=dE E call n l args h:=by
 unfold CR dE
 simp only[tF,zF,ph,Dn,eh]
 cases fj h l with
 | none=>rfl
 | some r =>
  simp only[aW]
  cases dQ r.nt r.params args r.fr with
  | none=>rfl
  | some fr =>
   simp only[aW]
   cases evC E call r.fn r.nt (some l) n r.assign fr h with
   | none=>rfl
   | some p =>
    obtain⟨e,fr,h⟩:=p
    cases e with
    | exit i=>rfl
    | ret=>rfl
    | normal =>
     simp only[aW]
     cases fj h l with
     | none=>rfl
     | some r1 =>
      simp only[aW]
      cases r1.state == .ready with
      | false=>rfl
      | true =>
       simp only[cond_true]
       cases evC E call r.fn r.nt (some l) n r.body fr { h with ext:=h.ext.set l (.loop { r1 with state:=.busy }) } with
       | none=>rfl
       | some p =>
        obtain⟨e,fr,h⟩:=p
        simp only[aW]
        cases fj h l with
        | none=>rfl
        | some r2=>cases e<;>rfl
def LU (E:Env) (n:Nat):a8:=Nat.rec (motive:=fun _=>a8) (fun _ _ _=>none) (fun n ih fv vs h=>match fv with
 | .func (.func f) first cap=>yC E ih n f (ya first.toList (ya vs cap.toList)) h
 | .func (.yield l) first _=>iB (Nat.beq (Nat.mod l 2) 0) (CR E ih n (Nat.div l 2) (ya first.toList vs) h) none
 | _=>none) n
theorem Hj (E:Env) : ∀n,LU E n=bU E n
 | 0=>rfl
 | n+1=>by
  funext fv vs h
  show(match fv with
   | .func (.func f) first cap=>yC E (LU E n) n f (ya first.toList (ya vs cap.toList)) h
   | .func (.yield l) first _=>iB (Nat.beq (Nat.mod l 2) 0) (CR E (LU E n) n (Nat.div l 2) (ya first.toList vs) h) none
   | _=>none)=match fv with
   | .func (.func f) first cap=>nD E (bU E n) n f (first.toList ++ (vs ++ cap.toList)) h
   | .func (.yield l) first _=>bif l % 2 == 0 then dE E (bU E n) n (l / 2) (first.toList ++ vs) h else none
   | _=>none
  rw[Hj E n]
  simp only[JE,Mn,yE,eh,kP];rfl
def L6 (E:Env) (n:Nat) (f:FuncId) (base:Nat→Option (List Value)):Bool:=Option.rec (motive:=fun _=>Bool) false (fun p=>match p.1 with|.bool b=>b|_=>false) (LU E n (.func (.func f) #[] #[]) [] (IH.start base))
theorem JG {E:Env} {n:Nat} {f:FuncId} {base:Nat→Option (List Value)} (h:L6 E n f base=true) : ∃h',bU E n (.func (.func f) #[] #[]) [] (IH.start base)=some (.bool true,h'):=by
 unfold L6 at h
 rw[Hj] at h
 cases hc:bU E n (.func (.func f) #[] #[]) [] (IH.start base) with
 | none=>rw[hc] at h;cases h
 | some p =>
  obtain⟨v,h'⟩:=p
  rw[hc] at h
  cases v with
  | bool b =>
   cases b with
   | true=>exact⟨h',rfl⟩
   | false=>cases h
  | _=>cases h
end
noncomputable section
def w64:Nat:=18446744073709551616
def EV:Nat:=13407807929942597099574024998205846127479365820592393377723561443721764030073546976801874298166903427690031858186486050853753882811946569946433649006084096
def NW:Nat:=6703903964971298549787012499102923063739682910296196688861780721860882015036773488400937149083451713845015929093243025426876941405973284973216824503042048
def OZ (v:Value) (ih:Option Nat):Option Nat:=match v with
 | .int .u64 (.ofNat w)=>iB (Nat.ble (Nat.succ w) w64) (bO ih fun r=>some (Nat.add w (Nat.mul w64 r))) none
 | _=>none
def sZ (l:List Value):Option Nat:=List.rec (motive:=fun _=>Option Nat) (some 0) (fun v _ ih=>OZ v ih) l
def Ic (n:Nat):Int:=iB (Nat.ble (Nat.succ n) NW) (Int.ofNat n) (Int.negSucc (Nat.sub (Nat.sub EV n) 1))
def JW (z:Int):Nat:=Int.rec (motive:=fun _=>Nat) (fun n=>n) (fun n=>Nat.sub EV (Nat.succ n)) z
def pY (k x:Nat) (tl:List Value):List Value:=Nat.rec (motive:=fun _=>Nat→List Value) (fun _=>tl) (fun _ ih x=>fN (Nat.mod x w64) fun w=>.int .u64 (.ofNat w) :: ih (Nat.div x w64)) k x
def OJ (num den:Int):Value:=.agg ⟨pY 8 (JW num) (pY 8 (JW den) [])⟩
def inF (z:Int):Bool:=Int.rec (motive:=fun _=>Bool) (fun n=>Nat.ble (Nat.succ n) NW) (fun n=>Nat.ble (Nat.succ n) NW) z
def xd (n d:Int):Value:=fN (Int.gcd n d) fun g=>iB (inF (Int.ediv n (Int.ofNat g))) (iB (inF (Int.ediv d (Int.ofNat g))) (.tuple #[OJ (Int.ediv n (Int.ofNat g)) (Int.ediv d (Int.ofNat g)),.int .i64 (.ofNat 0)]) (.tuple #[OJ 0 0,.int .i64 (.ofNat 6)])) (.tuple #[OJ 0 0,.int .i64 (.ofNat 6)])
def YD (z:Int):Bool:=Int.rec (motive:=fun _=>Bool) (fun n=>Nat.ble 1 n) (fun _=>false) z
def okF (n d:Int):Bool:=iB (YD d) (Nat.beq (Int.gcd n d) 1) false
def tp (v:Value) (k:Int→Int→Option Value):Option Value:=match v with
 | .agg cs=>iB (Nat.beq (zW cs.toList) 16) (bO (sZ cs.toList) fun x=>fN x fun x=>k (Ic (Nat.mod x EV)) (Ic (Nat.div x EV))) none
 | _=>none
def Bk (v:Value) (k:Int→Option Value):Option Value:=match v with
 | .agg cs=>iB (Nat.beq (zW cs.toList) 8) (bO (sZ cs.toList) fun x=>fN x fun x=>k (Ic x)) none
 | _=>none
def TU (v:Value) (k:Int→Option Value):Option Value:=match v with
 | .int .i64 z=>k z
 | _=>none
def Xn (n d:Int):Value:=Int.rec (motive:=fun _=>Value) (fun b=>xd n (.ofNat b)) (fun b=>xd (Int.neg n) (.ofNat (Nat.succ b))) d
def GN (z:Int):Bool:=Int.rec (motive:=fun _=>Bool) (fun n=>Nat.ble (Nat.succ n) 9223372036854775808) (fun n=>Nat.ble (Nat.succ n) 9223372036854775808) z
def OO (z:Int):Bool:=Int.rec (motive:=fun _=>Bool) (fun n=>Nat.beq n 0) (fun _=>false) z
def Us (x y:Int):Int:=Int.rec (motive:=fun _=>Int) (fun n=>Nat.rec (motive:=fun _=>Int) 0 (fun _ _=>1) n) (fun _ => -1) (Int.sub x y)
def of2 (l:List Value):Option Value:=match l with
 | [n,d]=>TU n fun n=>TU d fun d=>iB (GN n) (iB (GN d) (iB (OO d) none (some (Xn n d))) none) none
 | _=>none
def Qu (l:List Value):Option Value:=match l with
 | [n,d]=>Bk n fun n=>Bk d fun d=>iB (OO d) none (some (Xn n d))
 | _=>none
def JC (l:List Value):Option Value:=match l with
 | [a]=>tp a fun n d=>some (.int .i64 (iB (okF n d) 0 20))
 | _=>none
def V3 (of:Int→Int→Int→Int→Option Value) (l:List Value):Option Value:=match l with
 | [a,b]=>tp a fun n d=>iB (okF n d) (tp b fun m e=>iB (okF m e) (of n d m e) none) none
 | _=>none
def cmp2 (l:List Value):Option Value:=V3 (fun n d m e=>some (.tuple #[.int .i64 (Us (Int.mul n e) (Int.mul m d)),.int .i64 0])) l
end
theorem C3:EV=W8:=by rw[vE];decide +kernel
theorem Lz:NW=H8:=by unfold H8;decide +kernel
theorem pZ : ∀(l:List Value) (x:Nat),sZ l=some x→x<18446744073709551616 ^ l.length∧l=(List.range l.length).map fun i=>K64 (wrd x i)
 | [],x,h=>by
  cases h;exact⟨by decide,rfl⟩
 | v :: l,x,h=>by
  change OZ v (sZ l)=some x at h
  unfold OZ at h
  split at h
  case h_2=>cases h
  rename_i w
  obtain⟨h0,h⟩:=cq h
  cases hr:sZ l with
  | none=>rw[hr] at h;cases h
  | some r =>
   rw[hr] at h
   cases h
   obtain⟨a,b⟩:=pZ l r hr
   have hw:w<18446744073709551616:=qZ.1 h0
   show w+18446744073709551616*r<18446744073709551616 ^ (l.length+1)∧_
   refine⟨?_,?_⟩
   ·rw[Nat.pow_succ]
    have:(r+1)*18446744073709551616≤18446744073709551616 ^ l.length*18446744073709551616:=Nat.mul_le_mul_right _ a
    omega
   ·show _=(List.range (l.length+1)).map fun i=>K64 (wrd (w+18446744073709551616*r) i)
    rw[List.range_succ_eq_map,List.map_cons,List.map_map]
    have e0:wrd (w+18446744073709551616*r) 0=w:=by unfold wrd;rw[Nat.pow_zero,Nat.div_one];omega
    have e1 : ∀i,wrd (w+18446744073709551616*r) (i+1)=wrd r i:=fun i=>by
     unfold wrd
     rw[Nat.pow_succ,Nat.mul_comm (18446744073709551616 ^ i),←Nat.div_div_eq_div_mul,show(w+18446744073709551616*r) / 18446744073709551616=r from by omega]
    rw[e0]
    congr 1
    refine b.trans (List.map_congr_left fun i _=>?_)
    show _=K64 (wrd (w+18446744073709551616*r) (i+1))
    rw[e1]
theorem OU (x i:Nat) (hi:i<8):wrd (x % 18446744073709551616 ^ 8) i=wrd x i:=by
 have h:=pU (n:=x % 18446744073709551616 ^ 8) (x:=x / 18446744073709551616 ^ 8) hi
 rw[←h,show x % 18446744073709551616 ^ 8+x / 18446744073709551616 ^ 8*18446744073709551616 ^ 8=x from by rw[Nat.mul_comm];exact Nat.mod_add_div _ _]
theorem OV (x i:Nat):wrd (x / 18446744073709551616 ^ 8) i=wrd x (8+i):=by
 unfold wrd
 rw[Nat.div_div_eq_div_mul,←Nat.pow_add]
theorem Sw (x:Nat):((List.range 16).map fun i=>K64 (wrd x i))=shC (x % W8) (x / W8):=by
 rw[shC,wdC,wdC,vE,show(16:Nat)=8+8 from rfl,List.range_add,List.map_append,List.map_map]
 congr 1
 ·exact List.map_congr_left fun i hi=>by rw[OU x i (by simpa using hi)]
 ·exact List.map_congr_left fun i hi=>by
   show K64 (wrd x (8+i))=_
   rw[OV]
theorem Dk {n:Nat} (hn:n<W8):Ic n=wdI n:=by
 have e1:=Lz
 have e2:=C3
 have e3:=pF
 unfold Ic wdI
 rw[eh,e1,e2]
 by_cases h:n<H8
 ·rw[if_pos h,qZ.2 h];rfl
 ·rw[if_neg h,Bool.eq_false_iff.2 (fun hb=>h (qZ.1 hb))]
  show Int.negSucc (W8 - n - 1)=_
  omega
theorem mI {v:Value} {k:Int→Int→Option Value} {r:Value} (h:tp v k=some r) : ∃p:Nat×Nat,(p.1<W8∧p.2<W8)∧v=shV p.1 p.2∧k (wdI p.1) (wdI p.2)=some r:=by
 unfold tp at h
 split at h
 case h_2=>cases h
 rename_i cs
 obtain⟨h0,h⟩:=cq h
 have hl:cs.toList.length=16:=by rw[←j4];exact Nat.beq_eq.mp h0
 cases hx:sZ cs.toList with
 | none=>rw[hx] at h;cases h
 | some x =>
  rw[hx,aW,dO] at h
  obtain⟨a,b⟩:=pZ _ _ hx
  rw[hl] at a b
  have ex:x<W8*W8:=by rw[vE,←Nat.pow_add];exact a
  have hp:0<W8:=by have:=pF;have:=gU;omega
  have q1:x % W8<W8:=Nat.mod_lt _ hp
  have q2:x / W8<W8:=by rw[Nat.div_lt_iff_lt_mul hp];exact ex
  refine⟨(x % W8,x / W8),⟨q1,q2⟩,?_,?_⟩
  ·rw[shV,←Sw,←b]
  ·have h2:k (Ic (x % EV)) (Ic (x / EV))=some r:=h
   rw[C3,Dk q1,Dk q2] at h2
   exact h2
theorem tc {v:Value} {k:Int→Option Value} {r:Value} (h:Bk v k=some r) : ∃n:Nat,n<W8∧v=wdV n∧k (wdI n)=some r:=by
 unfold Bk at h
 split at h
 case h_2=>cases h
 rename_i cs
 obtain⟨h0,h⟩:=cq h
 have hl:cs.toList.length=8:=by rw[←j4];exact Nat.beq_eq.mp h0
 cases hx:sZ cs.toList with
 | none=>rw[hx] at h;cases h
 | some x =>
  rw[hx,aW,dO] at h
  obtain⟨a,b⟩:=pZ _ _ hx
  rw[hl] at a b
  have q1:x<W8:=by rw[vE];exact a
  refine⟨x,q1,?_,?_⟩
  ·rw[wdV,wdC,←b]
  ·rw[Dk q1] at h
   exact h
theorem rN {v:Value} {k:Int→Option Value} {r:Value} (h:TU v k=some r) : ∃z:Int,v=KI z∧k z=some r:=by
 unfold TU at h
 split at h
 case h_2=>cases h
 exact⟨_,rfl,h⟩
theorem rB (tl:List Value) : ∀(k x:Nat),pY k x tl=((List.range k).map fun i=>K64 (wrd x i)) ++ tl
 | 0,_=>rfl
 | k+1,x=>by
  show fN (x % 18446744073709551616) (fun w=>Value.int .u64 (.ofNat w) :: pY k (x / 18446744073709551616) tl)=_
  rw[dO,rB tl k,List.range_succ_eq_map,List.map_cons,List.map_map,List.cons_append]
  have e0:wrd x 0=x % 18446744073709551616:=by unfold wrd;rw[Nat.pow_zero,Nat.div_one]
  rw[e0]
  congr 2
  refine List.map_congr_left fun i _=>?_
  show _=K64 (wrd x (i+1))
  unfold wrd
  rw[Nat.pow_succ,Nat.mul_comm (18446744073709551616 ^ i),Nat.div_div_eq_div_mul]
theorem yN {z:Int} (hz:InW z):JW z=aV z:=by
 have e2:=C3
 unfold aV
 cases z with
 | ofNat n=>rfl
 | negSucc n =>
  show EV - (n+1)=_
  rw[e2,if_neg (by omega)];rfl
theorem Mh {a b:Int} (ha:InW a) (hb:InW b):OJ a b=shV (aV a) (aV b):=by
 unfold OJ shV shC wdC
 rw[rB,rB,yN ha,yN hb,List.append_nil]
theorem I3 (z:Int):inF z=decide (InW z):=by
 have e1:=Lz
 have:=gU
 rw[Bool.eq_iff_iff,decide_eq_true_eq]
 unfold InW
 cases z with
 | ofNat n =>
  show Nat.ble (n+1) NW=true ↔ -(H8:Int)≤(n:Int)∧(n:Int)<H8
  rw[qZ,e1]
  omega
 | negSucc n =>
  show Nat.ble (n+1) NW=true↔_
  rw[qZ,e1]
  omega
theorem yU {n d:Int} (hd:0<d):xd n d=gY (Rat.divInt n d):=by
 obtain⟨a,b⟩:=mP (n:=n) hd
 have z0:InW 0:=⟨by have:=gU;omega,by have:=gU;omega⟩
 have zz:OJ 0 0=shV 0 0:=by rw[Mh z0 z0];rfl
 unfold xd gY
 rw[dO,eh,eh,I3,I3]
 rw[show Int.ediv n (Int.ofNat (Int.gcd n d))=(Rat.divInt n d).num from a,show Int.ediv d (Int.ofNat (Int.gcd n d))=(Rat.divInt n d).den from b,zz]
 unfold QW
 by_cases c1:InW (Rat.divInt n d).num
 ·by_cases c2:InW ((Rat.divInt n d).den:Int)
  ·rw[if_pos ⟨c1,c2⟩,decide_eq_true c1,decide_eq_true c2,Mh c1 c2];rfl
  ·rw[if_neg (fun h=>c2 h.2),decide_eq_true c1,decide_eq_false c2];rfl
 ·rw[if_neg (fun h=>c1 h.1),decide_eq_false c1];rfl
theorem KC (z:Int):YD z=decide (0<z):=by
 rw[Bool.eq_iff_iff,decide_eq_true_eq]
 cases z with
 | ofNat n =>
  show Nat.ble 1 n=true↔0<(n:Int)
  rw[qZ];omega
 | negSucc n=>exact⟨fun h=>Bool.noConfusion h,fun h=>absurd h (by omega)⟩
theorem yH (z:Int):OO z=decide (z=0):=by
 rw[Bool.eq_iff_iff,decide_eq_true_eq]
 cases z with
 | ofNat n =>
  show Nat.beq n 0=true↔(n:Int)=0
  rw[Nat.beq_eq];omega
 | negSucc n=>exact⟨fun h=>Bool.noConfusion h,fun h=>absurd h (by omega)⟩
theorem iD {z:Int} (h:GN z=true):fR z:=by
 unfold fR
 cases z with
 | ofNat n =>
  have:=qZ.1 (show Nat.ble (Nat.succ n) 9223372036854775808=true from h)
  show _≤(n:Int)∧(n:Int)<_
  omega
 | negSucc n =>
  have:=qZ.1 (show Nat.ble (Nat.succ n) 9223372036854775808=true from h)
  omega
theorem DB {n d:Nat} (h:okF (wdI n) (wdI d)=true):okS n d:=by
 unfold okF at h
 rw[eh,KC] at h
 by_cases c:0<wdI d
 ·rw[decide_eq_true c] at h
  exact⟨c,Nat.beq_eq.mp h⟩
 ·rw[decide_eq_false c] at h;cases h
theorem okF_eq (n d:Nat):okF (wdI n) (wdI d)=(open Classical in decide (okS n d)):=by
 rw[Bool.eq_iff_iff,decide_eq_true_eq]
 refine⟨DB,fun h=>?_⟩
 unfold okF
 rw[eh,KC,decide_eq_true h.1]
 exact Nat.beq_eq.mpr h.2
theorem Ec {n d:Int} (hd:d≠0):Xn n d=gY (Rat.divInt n d):=by
 cases d with
 | ofNat b =>
  show xd n (b:Int)=gY (Rat.divInt n (b:Int))
  have:(b:Int)≠0:=hd
  exact yU (by omega)
 | negSucc b =>
  show xd (-n) ((b+1:Nat):Int)=_
  rw[yU (by omega)]
  congr 1
theorem Ur (x y:Int):Us x y=if x<y then -1 else if x=y then 0 else 1:=by
 unfold Us
 have e:Int.sub x y=x - y:=rfl
 rw[e]
 cases h:x - y with
 | ofNat n =>
  have h:x - y=(n:Int):=h
  cases n with
  | zero=>rw[if_neg (by omega),if_pos (by omega)];rfl
  | succ m=>rw[if_neg (by omega),if_neg (by omega)]
 | negSucc n=>rw[if_pos (by omega)]
theorem Bt {n d:Int} (hn:fR n) (hd:fR d) (d0:d≠0):gY (Rat.divInt n d)=.tuple #[hZ (Rat.divInt n d),KI 0]:=by
 unfold gY
 rw[if_pos (kL hn hd d0)]
abbrev Val (f:Value) (g:List Value→Option Value):Prop:=∀args v,args.all plain=true→g args=some v→mc v=true∧WV Proofs.Tryz.prog f args (IH.start fun _=>none) fun r _=>r=v
theorem BP (n d:Nat):plain (shV n d)=true:=by
 show(shC n d).toArray.all bD=true
 rw[shC,wdC,wdC,List.all_toArray,List.all_append,List.all_map,List.all_map]
 simp[bD]
theorem mL (q:Rat):mc (gY q)=true:=by
 obtain⟨n,d,e,h⟩:=lV q
 rw[h]
 show [shV n d,KI e].all plain=true
 rw[List.all_cons,BP];rfl
theorem VV:Val (.func (.func 88) #[] #[]) of2:=by
 intro args v _ h
 unfold of2 at h
 split at h
 case h_2=>cases h
 obtain⟨n,e0,k⟩:=rN h
 clear h;subst e0;have h:=k;clear k
 obtain⟨d,e0,k⟩:=rN h
 clear h;subst e0;have h:=k;clear k
 obtain⟨h1,h⟩:=cq h
 obtain⟨h2,h⟩:=cq h
 obtain⟨h3,h⟩:=mj h
 cases h
 have d0:d≠0:=by rw[yH] at h3;exact of_decide_eq_false h3
 have e:=Bt (iD h1) (iD h2) d0
 rw[Ec d0]
 exact⟨mL _,(Kh n d (iD h1) (iD h2) d0).mono fun r h' k=>k.2.trans e.symm⟩
theorem Pa:Val (.func (.func 42) #[] #[]) of2:=by
 intro args v _ h
 unfold of2 at h
 split at h
 case h_2=>cases h
 obtain⟨n,e0,k⟩:=rN h
 clear h;subst e0;have h:=k;clear k
 obtain⟨d,e0,k⟩:=rN h
 clear h;subst e0;have h:=k;clear k
 obtain⟨h1,h⟩:=cq h
 obtain⟨h2,h⟩:=cq h
 obtain⟨h3,h⟩:=mj h
 cases h
 have d0:d≠0:=by rw[yH] at h3;exact of_decide_eq_false h3
 have e:=Bt (iD h1) (iD h2) d0
 rw[Ec d0]
 exact⟨mL _,(oU n d (iD h1) (iD h2) d0).mono fun r h' k=>k.2.trans e.symm⟩
theorem Pb:Val (.func (.func 189) #[] #[]) Qu:=by
 intro args v _ h
 unfold Qu at h
 split at h
 case h_2=>cases h
 obtain⟨n,hn,e0,k⟩:=tc h
 clear h;subst e0;have h:=k;clear k
 obtain⟨d,hd,e0,k⟩:=tc h
 clear h;subst e0;have h:=k;clear k
 obtain⟨h3,h⟩:=mj h
 cases h
 have d0:wdI d≠0:=by rw[yH] at h3;exact of_decide_eq_false h3
 rw[Ec d0]
 exact⟨mL _,(BE n d hn hd (fun e=>d0 ((kX hd).2 e))).mono fun r h' k=>k.2⟩
theorem Mw:Val (.func (.func 128) #[] #[]) JC:=by
 intro args v _ h
 unfold JC at h
 split at h
 case h_2=>cases h
 obtain⟨p,hp,e0,k⟩:=mI h
 clear h;subst e0;have h:=k;clear k
 cases h
 rw[okF_eq,eh]
 refine⟨rfl,(oO p.1 p.2 hp.1 hp.2).mono fun r h' k=>k.2.trans ?_⟩
 by_cases c:okS p.1 p.2
 ·rw[if_pos c,decide_eq_true c];rfl
 ·rw[if_neg c,decide_eq_false c];rfl
theorem MA {of:Int→Int→Int→Int→Option Value} {l:List Value} {v:Value} (h:V3 of l=some v) : ∃p q:Nat×Nat,(p.1<W8∧p.2<W8)∧(q.1<W8∧q.2<W8)∧okS p.1 p.2∧okS q.1 q.2∧l = [shV p.1 p.2,shV q.1 q.2]∧of (wdI p.1) (wdI p.2) (wdI q.1) (wdI q.2)=some v:=by
 unfold V3 at h
 split at h
 case h_2=>cases h
 obtain⟨p,hp,e0,k⟩:=mI h
 clear h;subst e0;have h:=k;clear k
 obtain⟨ok1,h⟩:=cq h
 obtain⟨q,hq,e0,k⟩:=mI h
 clear h;subst e0;have h:=k;clear k
 obtain⟨ok2,h⟩:=cq h
 exact⟨p,q,hp,hq,DB ok1,DB ok2,rfl,h⟩
theorem SC:Val (.func (.func 26) #[] #[]) cmp2:=by
 intro args v _ h
 obtain⟨p,q,hp,hq,ok1,ok2,e0,k⟩:=MA h
 clear h;subst e0;have h:=k;clear k
 cases h
 refine⟨rfl,(zi hp hq ok1 ok2).mono fun r h' k=>k.2.trans ?_⟩
 have e:Us (Int.mul (wdI p.1) (wdI q.2)) (Int.mul (wdI q.1) (wdI p.2))=if rOf p<rOf q then -1 else if rOf p=rOf q then 0 else 1:=by
  rw[Ur,←Ef,(dC ok1).1,(dC ok1).2,(dC ok2).1,(dC ok2).2];rfl
 rw[e]
theorem PW (x y:Rat):x - y=Rat.divInt (x.num*y.den - y.num*x.den) ((x.den:Int)*y.den):=by
 rw[show x - y=x + -y from by grind,uI,Rat.neg_num,Rat.neg_den]
 congr 1
 grind
def XT (h:IH) (v:Value) (l:List Int):Prop:=bJ h 1 v l.length (l.map KI)∧l.length≤1000000000 ∧ ∀x∈l,fR x
def YF (most n:Int):Bool:=decide (n<0) || decide (most<n)
def WE (s l:List Int):Int:=if s.length<1∨60<s.length∨s.any (YF 30)=true∨l.length<1∨6<l.length∨l.any (YF 8)=true then 340 else 0
def YB (m s:Nat):Nat:=if m=11 then s else if m=12 then 2*s*(s+1) else if m=13 then s*(s+1) else if m=14 then 2*s+1 else s+1
def YC (m s:Nat):Nat:=if m=12 then 2*s+1 else if m=14 then 2 else 1
def YA (m s:Nat):Rat:=Rat.divInt (YB m s) (YC m s)
section
variable {P:Program}
end
def cmpQ (x y:Rat):Int:=if x<y then -1 else if x=y then 0 else 1

def D2 (p:Nat→Bool):Nat→Nat
 | 0=>0
 | n+1=>if D2 p n<n then D2 p n else if p n=true then n else n+1
def UT (k:Int) (m:Nat) (t:Rat) (s:Nat):Bool:=decide (k≤cmpQ (YA m s) t)
noncomputable def atT (m:Nat) (x:Rat) (n:Int):Option Rat:=open Classical in
 if QW ((n:Rat) / x) then (if m=13 then (if QW ((n:Rat) / x*((n:Rat) / x)) then some ((n:Rat) / x*((n:Rat) / x)) else none) else some ((n:Rat) / x)) else none
def Zao (m:Nat) (t:Rat):Nat:=D2 (UT 0 m t) 1001
def Sd (m:Nat) (t:Rat):Nat:=D2 (UT 1 m t) 1001
noncomputable def VG (m:Nat) (x:Rat) (n:Int):Int×Int×Int:=match atT m x n with
 | none=>(6,0,0)
 | some t=>if n=0 then (0,0,0) else if 1000<Sd m t then (2,0,0) else (0,(Zao m t:Nat),(Sd m t:Nat))
noncomputable def atA (m:Nat) (x:Rat) (l:List Int):List Value:=l.map fun n=>KI (VG m x n).2.1
noncomputable def atB (m:Nat) (x:Rat) (l:List Int):List Value:=l.map fun n=>KI (VG m x n).2.2

abbrev Reg:=Int×Int×Int
def regC (r:Reg):List Value:=[KI r.1,KI r.2.1,KI r.2.2]
def regL (l:List Reg):List Value:=l.flatMap regC
def Vg (won low:List Int) (n:Nat):Prop:=∀i,i<n→0≤low.getD i 0∧low.getD i 0≤won.getD i 0
instance (won low:List Int) (n:Nat):Decidable (Vg won low n):=inferInstanceAs (Decidable (∀i,i<n→_))
def Wk (v8 won low:List Int) (n:Nat):List Reg:=(List.range n).map fun i=>(v8.getD i 0,won.getD i 0,low.getD i 0)
structure OX (h H1 hh:IH) (fr:Fr) (vp vw vl:Value) (m:Int) (v8 won low:List Int) (b:Nat) (i:Nat) (out:Value):Prop where
 e:Ext h hh
 k:aJ H1 hh
 sp:bJ H1 1 vp v8.length (v8.map KI)
 sw:bJ H1 1 vw won.length (won.map KI)
 sl:bJ H1 1 vl low.length (low.map KI)
 bn:h.n<b∧b<hh.n
 g8:hh.ext.get h.n=some (.cells [KI 0,.slice none 0 0] 0 none)
 g11:hh.ext.get b=some (.cells [KI m,out] 0 none)
 acc:Acc hh h.n 3 out i (regL (Wk v8 won low i))
 lw:Vg won low i
 f1:ab fr 1=some vw
 f3:ab fr 3=some vl
 f8:ab fr 8=some (ptr (2*h.n) 0)
 f11:ab fr 11=some (ptr (2*b) 0)
 f12:ab fr 12=some (KI (won.take i).sum)
 f52:ab fr 52=some vp
 f53:ab fr 53=some (KI v8.length)
 f54:ab fr 54=some (KI i)
theorem Hp {P:Program} {t:TypeId} {sz bytes:Nat} (hT:kG P t=some (sz,bytes)) {h:IH} {b o n:Nat} {cs:List Value} (sv:pO h sz (.slice (some ⟨b,o,none⟩) n (2*n+1)) n cs) {x:Value} {m:Nat} {new:List Value} (sx:pO h sz x m new) (hm:0<m) (hn:0<n) (hc:new.all aA=true) (hsz:(n+m)*(bytes+1)≤1099511627776) :
  append P h t (.slice (some ⟨b,o,none⟩) n (2*n+1)) x=some (.slice (some ⟨2*h.n,0,none⟩) (n+m) (2*(n+m)),h.new (.cells (cs ++ new) sz none)):=by
 unfold kG at hT
 split at hT
 case h_2=>cases hT
 rename_i e hu
 split at hT
 case h_2=>cases hT
 rename_i zs h1 h2 h3
 simp only[cond_eq_ite] at hT
 split at hT
 case isTrue=>cases hT
 rename_i Jc
 cases hT
 have og:(sz == 0 || (!(Nat.ble bytes 65536) || !(zs.length == sz)))=false:=by simpa using Jc
 have first : ∀{y:Value} {k:Nat} {l:List Value},0<k→pO h sz y k l→bL h sz k y=some l∧lenOf y=some k:=by
  intro y k l hk s
  obtain⟨hz,hl,⟨rfl,rfl⟩|⟨b2,o2,k2,rfl,rfl|⟨row,a1,a2,a3⟩⟩⟩:=s
  ·omega
  ·omega
  have hms : ¬k*sz=0:=by
   have:0<k*sz:=Nat.mul_pos hk hz
   omega
  refine⟨?_,rfl⟩
  simp only[bL,cond_eq_ite,Nat.ble_eq,Nat.le_refl,if_true,beq_iff_eq,if_neg hms]
  rw[xn a1,if_pos a3,a2]
 have Aa:(m == 0)=false:=by simp;omega
 obtain⟨hfx,hlx⟩:=first hm sx
 obtain⟨hfv,_⟩:=first hn sv
 have wD:Nat.ble ((n+m)*(bytes+1)) aN=true:=by rw[Nat.ble_eq];exact hsz
 have od:Nat.ble (n+m) ((2*n+1) / 2)=false:=by
  rw[Bool.eq_false_iff];intro hh;rw[Nat.ble_eq] at hh;omega
 have nW:((2*n+1) % 2 == 1)=true:=by simp
 simp only[Id.append,hu,h1,h2,h3,hlx,Aa,og,hfx,hc,wD,od,nW,hfv,cond_true,cond_false,Bool.not_true]



abbrev B8 (n:Nat):Value:=.int .u8 (n:Int)
abbrev B16 (n:Nat):Value:=.int .u16 (n:Int)
structure Dr6 (h:IH) (x:Value) (ps ls:List Nat) (u s:Nat):Prop where
 ex : ∃vp vl,x=.agg #[vp,B8 u,vl,B16 s]∧bJ h 1 vp ps.length (ps.map B16)∧bJ h 1 vl ls.length (ls.map B8)
 bp : ∀p∈ps,p<65536
 bl : ∀p∈ls,p<256
 bu:u<256
 bs:s<65536
 lp:ps.length<9223372036854775808
 ll:ls.length<9223372036854775808
def maxL:List Int→Int
 | []=>0
 | a :: l=>l.foldl max a
def wiL (l:List Nat):List Value:=l.flatMap wdC
theorem Sy (l:List Nat):(wiL l).length=l.length*8:=by
 induction l with
 | nil=>rfl
 | cons a l ih=>rw[wiL,List.flatMap_cons,List.length_append,ar,←wiL,ih,List.length_cons];omega
theorem VT {l:List Nat} {i:Nat} {p:Nat} (h:l[i]?=some p):((wiL l).drop (i*8)).take 8=wdC p:=by
 induction l generalizing i with
 | nil=>simp at h
 | cons a l ih =>
  rw[wiL,List.flatMap_cons,←wiL]
  cases i with
  | zero =>
   simp at h
   subst h
   rw[Nat.zero_mul,List.drop_zero,List.take_append_of_le_length (by rw[ar];omega),List.take_of_length_le (by rw[ar];omega)]
  | succ i =>
   simp at h
   rw[List.drop_append,ar,List.drop_of_length_le (by rw[ar];omega),List.nil_append,show(i+1)*8 - 8=i*8 by omega]
   exact ih h
theorem EM (l:List Nat) (p:Nat):wiL (l ++ [p])=wiL l ++ wdC p:=by simp[wiL]
def pE (h:IH) (v:Value) (l:List Nat):Prop:=bJ h 8 v l.length (wiL l)∧l.length≤1000000000 ∧ ∀n∈l,n<W8
theorem pE.aa {h h':IH} {v:Value} {l:List Nat} (s:pE h v l) (e:aJ h h'):pE h' v l:=⟨s.1.aa e,s.2⟩
theorem pE.ld {h h':IH} {v:Value} {l:List Nat} (s:pE h v l) (e:aJ h h') {i:Nat} {p:Nat} (hi:l[i]?=some p):load Proofs.Tryz.prog h' 30 (aM v (i*8))=some (wdV p):=by
 have hil:=(List.getElem?_eq_some_iff.1 hi).1
 rw[s.1.Cb e (by rw[Sy];omega) (by omega) ag30 V9,VT hi];rfl
theorem yP (n:Nat):List.take 8 (List.drop 0 (wdC n))=wdC n:=by rw[List.drop_zero,List.take_of_length_le (by rw[ar];omega)]
def XO (l:List Nat):Prop:=∀n∈l,1≤wdI n
end Go.Id
