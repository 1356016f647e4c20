/-
  The ideal machine written for the kernel, third part: regions, code, calls. Fractions by value, for the kernel: what the functions of package share give, reckoned with the kernel's numbers.
-/
import Derived.Test.YtjhnilfelokpcaaGreatOutlierPathsBd
import Derived.Test.YtjhnilfelokpcaaGreatOutlierPathsBb
import Derived.Test.YtjhnilfelokpcaaGreatOutlierPathsAq
import Derived.Test.YtjhnilfelokpcaaGreatOutlierPathsAs
set_option linter.unusedVariables false
set_option linter.unusedSimpArgs false
set_option linter.defProp false
set_option linter.deprecated false
namespace Go.Id
open Go
noncomputable section
def I5 (ops:List Oper) (g:Nat×Bool) (fr:Fr):Option Bool:=bO ((ops[g.1]?).bind (·.dst)) fun d=>bO (uE fr d) fun v=>match v with
 | .bool b=>some (b == g.2)
 | .tuple _=>some false
 | _=>none
theorem Ek (ops:List Oper) (o:Oper) (j:Nat) (w:Bool) (fr:Fr) (hg:o.guard=some (j,w)):I5 ops (j,w) fr=bC ops o fr:=by
 unfold I5 bC
 rw[hg]
 simp only[oi]
 cases(ops[j]?).bind (·.dst) with
 | none=>rfl
 | some d =>
  simp only[aW]
  cases ai fr d with
  | none=>rfl
  | some v=>cases v<;>rfl
def stepG (E:Env) (call:bd) (nt:Nat) (o:Oper) (fr:Fr) (h:IH):Option (Fr×IH):=bO (UU o.op E call fr h) (Prod.rec fun v h=>bO (OV nt fr o.dst v) fun fr=>some (fr,h))
def Bf (E:Env) (call:bd) (nt:Nat) (ops:List Oper) (o:Oper) (fr:Fr) (h:IH):Option (Fr×IH) :=
 Option.rec (motive:=fun _=>Option (Fr×IH)) (stepG E call nt o fr h) (fun g=>bO (I5 ops g fr) fun w=>iB w (stepG E call nt o fr h) (bO (OV nt fr o.dst undef) fun fr=>some (fr,h))) o.guard
theorem EB (E:Env) (call:bd) (nt:Nat) (o:Oper) (fr:Fr) (h:IH):stepG E call nt o fr h=match cV E call fr o.op h with
  | some (v,h)=>(mC nt fr o.dst v).map (·,h)
  | none=>none:=by
 unfold stepG
 rw[Jq]
 cases cV E call fr o.op h with
 | none=>rfl
 | some p =>
  obtain⟨v,h⟩:=p
  simp only[aW,C0]
  cases mC nt fr o.dst v<;>rfl
theorem EC (E:Env) (call:bd) (nt:Nat) (ops:List Oper) (o:Oper) (fr:Fr) (h:IH):Bf E call nt ops o fr h=cT E call nt ops o fr h:=by
 unfold Bf cT
 cases hg:o.guard with
 | none =>
  rw[show bC ops o fr=some true from by unfold bC;rw[hg]]
  exact EB E call nt o fr h
 | some g =>
  obtain⟨j,w⟩:=g
  simp only
  rw[Ek ops o j w fr hg]
  cases bC ops o fr with
  | none=>rfl
  | some b =>
   cases b with
   | true=>exact EB E call nt o fr h
   | false =>
    simp only[aW,qt,C0]
    cases mC nt fr o.dst undef<;>rfl
def qV (E:Env) (call:bd) (nt:Nat) (ops l:List Oper) (fr:Fr) (h:IH):Option (Fr×IH):=List.rec (motive:=fun _=>Fr→IH→Option (Fr×IH)) (fun fr h=>some (fr,h)) (fun o _ ih fr h=>bO (Bf E call nt ops o fr h) (Prod.rec ih)) l fr h
theorem sF (E:Env) (call:bd) (nt:Nat) (ops:List Oper) : ∀(l:List Oper) (fr:Fr) (h:IH),qV E call nt ops l fr h=ff E call nt ops l fr h
 | [],_,_=>rfl
 | o :: l,fr,h=>by
  show bO (Bf E call nt ops o fr h) (Prod.rec (qV E call nt ops l))=_
  rw[EC,ff]
  cases cT E call nt ops o fr h with
  | none=>rfl
  | some p=>exact sF E call nt ops l p.1 p.2
def CG (E:Env) (call:bd) (nt:Nat) (ops l:List Oper) (fr:Fr) (h:IH):Option (List (Fr×IH)):=List.rec (motive:=fun _=>Fr→IH→Option (List (Fr×IH))) (fun fr h=>some [(fr,h)]) (fun o _ ih fr h=>bO (Bf E call nt ops o fr h) (Prod.rec fun fr' h'=>bO (ih fr' h') fun l=>some ((fr,h) :: l))) l fr h
theorem Bb (E:Env) (call:bd) (nt:Nat) (ops:List Oper) : ∀(l:List Oper) (fr:Fr) (h:IH),CG E call nt ops l fr h=trace E call nt ops l fr h
 | [],_,_=>rfl
 | o :: l,fr,h=>by
  show bO (Bf E call nt ops o fr h) (Prod.rec fun fr' h'=>bO (CG E call nt ops l fr' h') fun l=>some ((fr,h) :: l))=_
  rw[EC,trace]
  cases cT E call nt ops o fr h with
  | none=>rfl
  | some p =>
   obtain⟨fr',h'⟩:=p
   simp only[aW,Bb E call nt ops l]
   cases trace E call nt ops l fr' h'<;>rfl
def Sz (E:Env) (fr:Fr) (o:Op) (h:IH):Option (Value×IH):=UU o E (fun _ _ _=>none) fr h
theorem J6 (E:Env) (fr:Fr) (o:Op) (h:IH):Sz E fr o h=iop E.P fr o h:=by
 unfold Sz
 rw[Jq]
 cases o<;>try rfl
 rename_i c
 simp only[cV,iop]
 cases c.callee with
 | value f=>simp only;cases opd fr f<;>cases gh fr c.args.toList<;>rfl
 | _=>rfl
def vf (E:Env) (fr:Fr) (o:Op) (h h':IH):Bool :=
 match Sz E fr o h,Sz E fr o h' with
 | some (v,_),some (v',_)=>eqV v v'
 | _,_=>false
def I4 (ops:List Oper) (o:Oper) (fr:Fr):Option Bool:=Option.rec (motive:=fun _=>Option Bool) (some true) (fun g=>I5 ops g fr) o.guard
theorem NS (ops:List Oper) (o:Oper) (fr:Fr):I4 ops o fr=bC ops o fr:=by
 unfold I4
 cases hg:o.guard with
 | none=>unfold bC;rw[hg]
 | some g=>exact Ek ops o g.1 g.2 fr hg
def CM (E:Env) (ops:List Oper) (tr:List (Fr×IH)) (pl:List (Nat×List Nat)):Bool :=
 pl.all fun e=>match ops[e.1]?,tr[e.1]? with
  | some o,some (fr,h)=>match I4 ops o fr with
   | some true=>e.2.all fun p=>match tr[p]? with
    | some (_,h')=>vf E fr o.op h h'
    | none=>false
   | _=>true
  | _,_=>false
theorem G8 (E:Env) (ops:List Oper) (tr:List (Fr×IH)) (pl:List (Nat×List Nat)):CM E ops tr pl=steady E.P ops tr pl:=by
 have e:vf E=fP E.P:=by
  funext fr o h h'
  unfold vf fP
  rw[J6,J6];rfl
 have e2:I4=bC:=by funext ops o fr;exact NS ops o fr
 unfold CM steady
 rw[e,e2];rfl
def O0 (ops:List Oper):Option (List (Nat×List Nat)):=bif kT ops then some (xF ops) else none
def DI (E:Env) (call:bd) (nt:Nat) (ops:List Oper) (fr:Fr) (h:IH):Option (Fr×IH):=bO (O0 ops) (List.rec (motive:=fun _=>Option (Fr×IH)) (qV E call nt ops ops fr h) (fun a l _=>bO (CG E call nt ops ops fr h) fun tr=>iB (CM E ops tr (a :: l)) tr[ops.length]? none))
theorem yx (E:Env) (call:bd) (nt:Nat) (ops:List Oper) : ∀(l:List Oper) (fr:Fr) (h:IH),(match trace E call nt ops l fr h with|none=>none|some tr=>tr[l.length]?)=ff E call nt ops l fr h
 | [],_,_=>rfl
 | o :: l,fr,h=>by
  rw[trace,ff]
  cases cT E call nt ops o fr h with
  | none=>rfl
  | some p =>
   obtain⟨fr',h'⟩:=p
   simp only
   rw[←yx E call nt ops l fr' h']
   cases trace E call nt ops l fr' h'<;>rfl
theorem MP (E:Env) (call:bd) (nt:Nat) (ops:List Oper) (fr:Fr) (h:IH):DI E call nt ops fr h=gD E call nt ops fr h:=by
 unfold DI gD O0
 cases ho:kT ops with
 | false=>cases trace E call nt ops ops fr h<;>rfl
 | true =>
  simp only[cond_true,aW,Bool.true_and]
  cases hp:xF ops with
  | nil =>
   show qV E call nt ops ops fr h=_
   rw[sF,←yx]
   cases trace E call nt ops ops fr h<;>rfl
  | cons a l =>
   show bO (CG E call nt ops ops fr h) _=_
   simp only[Bb,G8,dW]
   cases trace E call nt ops ops fr h<;>rfl
abbrev Sm:=Fr→IH→Out
def TE:Sm:=fun fr h=>some (.normal,fr,h)
def XL (i:Nat):Sm:=fun fr h=>some (.exit i,fr,h)
def YX:Sm:=fun fr h=>some (.ret,fr,h)
def noC:Sm:=fun _ _=>none
def Ar (k:Sm) (p:bh×Fr×IH):Out:=Prod.rec (fun e q=>bh.rec (motive:=fun _=>Out) (Prod.rec (fun fr h=>k fr h) q) (fun i=>some (.exit i,q)) (some (.ret,q)) e) p
def YV (a b:Sm):Sm:=fun fr h=>bO (a fr h) (Ar b)
def XN (c:Operand) (a b:Sm):Sm:=fun fr h=>bO (cL c fr) fun v=>match v with
 | .bool t=>iB t a b fr h
 | _=>none
def IA (id:Nat) (b:Sm):Sm:=fun fr h=>bO (b fr h) (Prod.rec fun e q=>bh.rec (motive:=fun _=>Out) (some (.normal,q)) (fun i=>iB (Nat.beq i id) (some (.normal,q)) (some (.exit i,q))) (some (.ret,q)) e)
def HS (b:Sm) (n:Nat):Sm:=Nat.rec (motive:=fun _=>Sm) noC (fun _ ih fr h=>bO (b fr h) (Ar ih)) n
theorem Cq (k:Sm) (o:Out):bO o (Ar k)=match o with
  | some (.normal,fr,h)=>k fr h
  | some (.exit i,fr,h)=>some (.exit i,fr,h)
  | some (.ret,fr,h)=>some (.ret,fr,h)
  | none=>none:=by
 cases o with
 | none=>rfl
 | some p =>
  obtain⟨e,fr,h⟩:=p
  cases e<;>rfl
theorem BN (b:Sm) : ∀n,HS b n=ma b n
 | 0=>by funext fr h;rfl
 | n+1=>by
  funext fr h
  show bO (b fr h) (Ar (HS b n))=_
  rw[Cq,BN b n];rfl
def Dh (b:Code):Bool:=match b with
 | .seq (.region _ ops draw) _=>(qn ops.toList draw).isSome
 | _=>false
def Pw (E:Env) (call:bd) (fn:FuncId) (nt:Nat) (rd:Option Nat) (n:Nat) (b:Code) (ih:Sm):Sm:=iB (Dh b) (evC E call fn nt rd n (.loop b)) (HS ih n)
def J4 {β:Type} (fr:Fr) (l:List Nat) (k:Fr→β):β:=List.rec (motive:=fun _=>(Fr→β)→β) (fun k=>k []) (fun t _ ih k=>Option.rec (motive:=fun _=>β) (ih k) (fun v=>ih fun r=>k ((t,v) :: r)) (uE fr t)) l k
theorem zF {β:Type} (fr:Fr) : ∀(l:List Nat) (k:Fr→β),J4 fr l k=k (dT fr l)
 | [],_=>rfl
 | t :: l,k=>by
  show Option.rec (motive:=fun _=>β) (J4 fr l k) (fun v=>J4 fr l fun r=>k ((t,v) :: r)) (uE fr t)=_
  rw[oi,dT]
  cases ai fr t with
  | none=>exact zF fr l k
  | some v=>exact zF fr l _
def Ka {β:Type} (E:Env) (fn:FuncId) (id:Nat) (fr:Fr) (k:Fr→β):β:=Option.rec (motive:=fun _=>β) (k fr) (fun l=>J4 fr l k) (E.lv fn id)
theorem PU {β:Type} (E:Env) (fn:FuncId) (id:Nat) (fr:Fr) (k:Fr→β):Ka E fn id fr k=k (gI E fn id fr):=by
 unfold Ka gI
 cases E.lv fn id with
 | none=>rfl
 | some l=>exact zF fr l k
def RX (E:Env) (call:bd) (fn:FuncId) (nt:Nat) (id:Nat) (ops:Array Oper) (draw:Bool):Sm:=fun fr h=>Ka E fn id fr fun fr=>bO (iB draw (DI E call nt ops.toList fr h) (qV E call nt ops.toList ops.toList fr h)) fun q=>some (.normal,q)
def mN (h:IH) (k:Nat):Option gP:=bO (tG h.ext k) fun o=>match o with
 | .loop r=>some r
 | _=>none
theorem sY (h:IH) (k:Nat):mN h k=fg h k:=by
 unfold mN fg
 rw[lO]
 cases h.ext.get k with
 | none=>rfl
 | some o=>cases o<;>rfl
def OI (h:IH) (rd:Option Nat):Bool:=Option.rec (motive:=fun _=>Bool) true (fun l=>(mN h l).isSome) rd
theorem Lz (h:IH) (rd:Option Nat):OI h rd=oI h rd:=by
 cases rd with
 | none=>rfl
 | some l =>
  show(mN h l).isSome=(fg h l).isSome
  rw[sY]
def Ht (E:Env) (call:bd) (fn:FuncId) (nt:Nat) (rd:Option Nat) (f:Operand) (params:Array Tmp) (assign body:Code):Sm:=fun fr h =>
 iB (OI h rd) (bO (cL f fr) fun fv=>Mo h (.loop { state:=.ready,pending:=none,fn,nt,fr,params:=params.toList,assign,body }) fun k h0=>fN (Nat.mul 2 k) fun k2 =>
  bO (call fv [.func (.yield k2) #[] #[]] h0) (Prod.rec fun _ h1=>bO (mN h1 k) fun r=>iB (r.state == .busy) none (bO (tp r.pending) fun e=>Hk h1 k .dead fun h=>some (e,fr,h)))) none
theorem LK (E:Env) (call:bd) (fn:FuncId) (nt:Nat) (rd:Option Nat) (f:Operand) (params:Array Tmp) (assign body:Code) (fr:Fr) (h:IH):Ht E call fn nt rd f params assign body fr h=jT E call fn nt rd f params.toList assign body fr h:=by
 unfold Ht jT
 simp only[xU,dN,Lz,sY,cu,CT,dW]
 cases oI h rd with
 | false=>rfl
 | true =>
  simp only[cond_true]
  cases opd fr f with
  | none=>rfl
  | some fv =>
   simp only[aW]
   show bO (call fv [.func (.yield (2*h.n)) #[] #[]] _) _=_
   cases call fv [.func (.yield (2*h.n)) #[] #[]] (h.new (.loop { state:=.ready,pending:=none,fn,nt,fr,params:=params.toList,assign,body })) with
   | none=>rfl
   | some p =>
    obtain⟨v,h1⟩:=p
    simp only[aW]
    cases fg h1 h.n with
    | none=>rfl
    | some r =>
     simp only[aW]
     cases r.state == .busy with
     | true=>rfl
     | false =>
      simp only[cond_false]
      cases tp r.pending<;>rfl
def evF (E:Env) (call:bd) (fn:FuncId) (nt:Nat) (rd:Option Nat) (n:Nat) (c:Code):Sm:=Code.rec (motive:=fun _=>Sm) TE (fun id ops draw=>RX E call fn nt id ops draw) (fun _ _ a b=>YV a b) (fun c _ _ a b=>XN c a b) (fun id _ b=>IA id b) (fun b ih=>Pw E call fn nt rd n b ih)
 (fun f ps a b _ _=>Ht E call fn nt rd f ps a b) XL (fun _ b=>b) (fun _=>TE) (fun _=>noC) YX (fun _=>noC) c
theorem oZ (E:Env) (call:bd) (fn:FuncId) (nt:Nat) (rd:Option Nat) (n:Nat) : ∀(c:Code),evF E call fn nt rd n c=evC E call fn nt rd n c
 | .skip=>by funext fr h;rw[evC];rfl
 | .label _=>by funext fr h;rw[evC];rfl
 | .region id ops draw=>by
  funext fr h
  show Ka E fn id fr (fun fr=>bO (iB draw (DI E call nt ops.toList fr h) (qV E call nt ops.toList ops.toList fr h)) fun q=>some (bh.normal,q))=_
  rw[evC,PU,dW,MP,sF]
  cases(bif draw then gD E call nt ops.toList (gI E fn id fr) h else ff E call nt ops.toList ops.toList (gI E fn id fr) h)<;>rfl
 | .seq a b=>by
  funext fr h
  show bO (evF E call fn nt rd n a fr h) (Ar (evF E call fn nt rd n b))=_
  rw[oZ E call fn nt rd n a,oZ E call fn nt rd n b,Cq,evC]
  cases evC E call fn nt rd n a fr h with
  | none=>rfl
  | some p=>rfl
 | .cond c a b=>by
  funext fr h
  show bO (cL c fr) _=_
  simp only[evC,cu]
  show(bO (opd fr c) fun v=>match v with|.bool t=>iB t (evF E call fn nt rd n a) (evF E call fn nt rd n b) fr h|_=>none)=_
  rw[oZ E call fn nt rd n a,oZ E call fn nt rd n b]
  cases opd fr c with
  | none=>rfl
  | some v =>
   cases v with
   | bool t=>cases t<;>rfl
   | _=>rfl
 | .block id b=>by
  funext fr h
  show IA id (evF E call fn nt rd n b) fr h=_
  rw[oZ E call fn nt rd n b,evC]
  unfold IA
  cases evC E call fn nt rd n b fr h with
  | none=>rfl
  | some p =>
   obtain⟨e,fr,h⟩:=p
   cases e with
   | exit i =>
    show iB (Nat.beq i id) _ _=_
    rw[dW]
    simp only[kJ]
   | _=>rfl
 | .loop b=>by
  funext fr h
  show Pw E call fn nt rd n b (evF E call fn nt rd n b) fr h=_
  rw[oZ E call fn nt rd n b]
  unfold Pw
  cases hm:Dh b with
  | true=>rfl
  | false =>
   rw[qt,BN]
   cases b with
   | seq a rest =>
    cases a with
    | region id ops draw =>
     rw[evC]
     have hn:qn ops.toList draw=none:=by
      cases ho:qn ops.toList draw with
      | none=>rfl
      | some x=>rw[Dh,ho] at hm;cases hm
     rw[hn]
    | _=>rw[evC];intro _ _ _ _ h;cases h
   | _=>rw[evC];intro _ _ _ _ h;cases h
 | .scope b=>by
  show evF E call fn nt rd n b=_
  rw[oZ E call fn nt rd n b]
  funext fr h;rw[evC]
 | .rangeFunc f ps a b=>by
  funext fr h
  rw[evC];exact LK E call fn nt rd f ps a b fr h
 | .exit i=>by funext fr h;rw[evC];rfl
 | .ret=>by funext fr h;rw[evC];rfl
 | .goto _=>by funext fr h;rw[evC];rfl
 | .refuse _=>by funext fr h;rw[evC];rfl
def CW (P:Program) (fr:Fr) (h:IH) (r:ResultVar):Option Value:=match r with
 | .tmp t=>uE fr t
 | .cell a t=>bO (uE fr a) fun v=>JV P h t v
def tW (P:Program) (fr:Fr) (h:IH) (l:List ResultVar):Option (List Value):=List.rec (motive:=fun _=>Option (List Value)) (some []) (fun r _ ih=>bO (CW P fr h r) fun v=>bO ih fun vs=>some (v :: vs)) l
theorem wI (P:Program) (fr:Fr) (h:IH) : ∀l,tW P fr h l=bg P fr h l
 | []=>rfl
 | r :: l=>by
  show bO (CW P fr h r) (fun v=>bO (tW P fr h l) fun vs=>some (v :: vs))=_
  rw[wI P fr h l,bg,show CW P fr h r=gE P fr h r from ?_]
  ·cases gE P fr h r<;>cases bg P fr h l<;>rfl
  ·cases r with
   | tmp t=>exact oi fr t
   | cell a t =>
    show bO (uE fr a) _=_
    rw[oi]
    simp only[gE,FN]
    cases ai fr a<;>rfl
def Qj (l:List Value):Fr:=List.rec (motive:=fun _=>Nat→Fr) (fun _ => []) (fun v _ ih i=>(i,v) :: ih (Nat.succ i)) l 0
theorem B5 : ∀(l:List Value) (i:Nat),List.rec (motive:=fun _=>Nat→Fr) (fun _ => []) (fun v _ ih i=>(i,v) :: ih (Nat.succ i)) l i=dC i l
 | [],_=>rfl
 | v :: l,i=>congrArg ((i,v) :: ·) (B5 l (i+1))
theorem MO (l:List Value):Qj l=dC 0 l:=B5 l 0
def Q2 (E:Env) (call:bd) (n:Nat) (f:FuncId) (fn:Func) (args:List Value) (h:IH) (c:Code):Option (Value×IH) :=
 iB (Nat.ble (zx args) fn.ntmps) (bO (evF E call f fn.ntmps none n c (Qj args) h) (Prod.rec fun e q=>bh.rec (motive:=fun _=>Option (Value×IH))
  (Prod.rec (fun fr h=>bO (tW E.P fr h fn.results.toList) fun vs=>some (single vs,h)) q) (fun _=>none) (Prod.rec (fun fr h=>bO (tW E.P fr h fn.results.toList) fun vs=>some (single vs,h)) q) e)) none
def yf (E:Env) (call:bd) (n:Nat) (f:FuncId) (args:List Value) (h:IH):Option (Value×IH):=Option.rec (motive:=fun _=>Option (Value×IH))
 (bO E.P.funcs[f]? fun fn=>Option.rec (motive:=fun _=>Option (Value×IH)) (okV h (mu fn.name args)) (Q2 E call n f fn args h) fn.body) (fun g=>g args h) (E.rE f)
theorem Iy (E:Env) (call:bd) (n:Nat) (f:FuncId) (args:List Value) (h:IH):yf E call n f args h=nk E call n f args h:=by
 unfold yf nk
 cases E.rE f with
 | some g=>rfl
 | none =>
  cases E.P.funcs[f]? with
  | none=>rfl
  | some fn =>
   simp only[aW]
   cases fn.body with
   | none=>exact jG _ _
   | some c =>
    show Q2 E call n f fn args h c=bif Nat.ble args.length fn.ntmps then _ else none
    unfold Q2
    rw[jX,dW,oZ,MO]
    simp only[wI]
    cases Nat.ble args.length fn.ntmps with
    | false=>rfl
    | true =>
     simp only[cond_true]
     cases evC E call f fn.ntmps none n c (dC 0 args) h with
     | none=>rfl
     | some p =>
      obtain⟨e,fr,h⟩:=p
      cases e with
      | exit i=>rfl
      | normal =>
       show bO (bg E.P fr h fn.results.toList) _=(bg E.P fr h fn.results.toList).map _
       cases bg E.P fr h fn.results.toList<;>rfl
      | ret =>
       show bO (bg E.P fr h fn.results.toList) _=(bg E.P fr h fn.results.toList).map _
       cases bg E.P fr h fn.results.toList<;>rfl
def C7 (nt:Nat) (l:List Nat) (vs:List Value) (fr:Fr):Option Fr:=List.rec (motive:=fun _=>List Value→Fr→Option Fr) (fun vs fr=>List.rec (motive:=fun _=>Option Fr) (some fr) (fun _ _ _=>none) vs) (fun t _ ih vs fr=>List.rec (motive:=fun _=>Option Fr) none (fun v vs _=>bO (OV nt fr (some t) v) (ih vs)) vs) l vs fr
theorem y5 (nt:Nat) : ∀(l:List Nat) (vs:List Value) (fr:Fr),C7 nt l vs fr=dQ nt l vs fr
 | [],[],_=>rfl
 | [],_ :: _,_=>rfl
 | _ :: _,[],_=>rfl
 | t :: l,v :: vs,fr=>by
  show bO (OV nt fr (some t) v) (C7 nt l vs)=_
  rw[C0,dQ]
  cases mC nt fr (some t) v with
  | none=>rfl
  | some fr=>exact y5 nt l vs fr
def Cu (E:Env) (call:bd) (n:Nat) (l:Nat) (args:List Value) (h:IH):Option (Value×IH) :=
 bO (mN h l) fun r=>bO (C7 r.nt r.params args r.fr) fun fr=>bO (evF E call r.fn r.nt (some l) n r.assign fr h) (Prod.rec fun e q=>bh.rec (motive:=fun _=>Option (Value×IH)) (Prod.rec (fun fr h=>bO (mN h l) fun r1=>iB (r1.state == .ready)
  (Hk h l (.loop { r1 with state:=.busy }) fun h=>bO (evF E call r.fn r.nt (some l) n r.body fr h) (Prod.rec fun e q=>Prod.rec (fun _ h=>bO (mN h l) fun r2=>bh.rec (motive:=fun _=>Option (Value×IH))
   (Hk h l (.loop { r2 with state:=.ready,pending:=none }) fun h=>some (.bool true,h))
   (fun i=>Hk h l (.loop { r2 with state:=.done,pending:=some (.exit i) }) fun h=>some (.bool false,h))
   (Hk h l (.loop { r2 with state:=.done,pending:=some .ret }) fun h=>some (.bool false,h)) e) q)) none) q) (fun _=>none) none e)
theorem KU (E:Env) (call:bd) (n:Nat) (l:Nat) (args:List Value) (h:IH):Cu E call n l args h=dD E call n l args h:=by
 unfold Cu dD
 simp only[sY,y5,oZ,CT,dW]
 cases fg h l with
 | none=>rfl
 | some r =>
  simp only[aW]
  cases dQ r.nt r.params args r.fr with
  | none=>rfl
  | some fr =>
   simp only[aW]
   cases evC E call r.fn r.nt (some l) n r.assign fr h with
   | none=>rfl
   | some p =>
    obtain⟨e,fr,h⟩:=p
    cases e with
    | exit i=>rfl
    | ret=>rfl
    | normal =>
     simp only[aW]
     cases fg h l with
     | none=>rfl
     | some r1 =>
      simp only[aW]
      cases r1.state == .ready with
      | false=>rfl
      | true =>
       simp only[cond_true]
       cases evC E call r.fn r.nt (some l) n r.body fr { h with ext:=h.ext.set l (.loop { r1 with state:=.busy }) } with
       | none=>rfl
       | some p =>
        obtain⟨e,fr,h⟩:=p
        simp only[aW]
        cases fg h l with
        | none=>rfl
        | some r2=>cases e<;>rfl
def Kz (E:Env) (n:Nat):bd:=Nat.rec (motive:=fun _=>bd) (fun _ _ _=>none) (fun n ih fv vs h=>match fv with
 | .func (.func f) first cap=>yf E ih n f (xL first.toList (xL vs cap.toList)) h
 | .func (.yield l) first _=>iB (Nat.beq (Nat.mod l 2) 0) (Cu E ih n (Nat.div l 2) (xL first.toList vs) h) none
 | _=>none) n
theorem Gz (E:Env) : ∀n,Kz E n=cb E n
 | 0=>rfl
 | n+1=>by
  funext fv vs h
  show(match fv with
   | .func (.func f) first cap=>yf E (Kz E n) n f (xL first.toList (xL vs cap.toList)) h
   | .func (.yield l) first _=>iB (Nat.beq (Nat.mod l 2) 0) (Cu E (Kz E n) n (Nat.div l 2) (xL first.toList vs) h) none
   | _=>none)=match fv with
   | .func (.func f) first cap=>nk E (cb E n) n f (first.toList ++ (vs ++ cap.toList)) h
   | .func (.yield l) first _=>bif l % 2 == 0 then dD E (cb E n) n (l / 2) (first.toList ++ vs) h else none
   | _=>none
  rw[Gz E n]
  simp only[Iy,KU,yj,dW,kJ];rfl
def KE (E:Env) (n:Nat) (f:FuncId) (base:Nat→Option (List Value)):Bool:=Option.rec (motive:=fun _=>Bool) false (fun p=>match p.1 with|.bool b=>b|_=>false) (Kz E n (.func (.func f) #[] #[]) [] (IH.start base))
theorem Iz {E:Env} {n:Nat} {f:FuncId} {base:Nat→Option (List Value)} (h:KE E n f base=true) : ∃h',cb E n (.func (.func f) #[] #[]) [] (IH.start base)=some (.bool true,h'):=by
 unfold KE at h
 rw[Gz] at h
 cases hc:cb E n (.func (.func f) #[] #[]) [] (IH.start base) with
 | none=>rw[hc] at h;cases h
 | some p =>
  obtain⟨v,h'⟩:=p
  rw[hc] at h
  cases v with
  | bool b =>
   cases b with
   | true=>exact⟨h',rfl⟩
   | false=>cases h
  | _=>cases h
end
end Go.Id

namespace Go.Id
open Go
noncomputable section
def w64:Nat:=18446744073709551616
def El:Nat:=13407807929942597099574024998205846127479365820592393377723561443721764030073546976801874298166903427690031858186486050853753882811946569946433649006084096
def MI:Nat:=6703903964971298549787012499102923063739682910296196688861780721860882015036773488400937149083451713845015929093243025426876941405973284973216824503042048
def NH (v:Value) (ih:Option Nat):Option Nat:=match v with
 | .int .u64 (.ofNat w)=>iB (Nat.ble (Nat.succ w) w64) (bO ih fun r=>some (Nat.add w (Nat.mul w64 r))) none
 | _=>none
def sm (l:List Value):Option Nat:=List.rec (motive:=fun _=>Option Nat) (some 0) (fun v _ ih=>NH v ih) l
def Hj (n:Nat):Int:=iB (Nat.ble (Nat.succ n) MI) (Int.ofNat n) (Int.negSucc (Nat.sub (Nat.sub El n) 1))
def IW (z:Int):Nat:=Int.rec (motive:=fun _=>Nat) (fun n=>n) (fun n=>Nat.sub El (Nat.succ n)) z
def pO (k x:Nat) (tl:List Value):List Value:=Nat.rec (motive:=fun _=>Nat→List Value) (fun _=>tl) (fun _ ih x=>fN (Nat.mod x w64) fun w=>.int .u64 (.ofNat w) :: ih (Nat.div x w64)) k x
def Nq (num den:Int):Value:=.agg ⟨pO 8 (IW num) (pO 8 (IW den) [])⟩
def inF (z:Int):Bool:=Int.rec (motive:=fun _=>Bool) (fun n=>Nat.ble (Nat.succ n) MI) (fun n=>Nat.ble (Nat.succ n) MI) z
def wq (n d:Int):Value:=fN (Int.gcd n d) fun g=>iB (inF (Int.ediv n (Int.ofNat g))) (iB (inF (Int.ediv d (Int.ofNat g))) (.tuple #[Nq (Int.ediv n (Int.ofNat g)) (Int.ediv d (Int.ofNat g)),.int .i64 (.ofNat 0)]) (.tuple #[Nq 0 0,.int .i64 (.ofNat 6)])) (.tuple #[Nq 0 0,.int .i64 (.ofNat 6)])
def WC (z:Int):Bool:=Int.rec (motive:=fun _=>Bool) (fun n=>Nat.ble 1 n) (fun _=>false) z
def okF (n d:Int):Bool:=iB (WC d) (Nat.beq (Int.gcd n d) 1) false
def sE (v:Value) (k:Int→Int→Option Value):Option Value:=match v with
 | .agg cs=>iB (Nat.beq (zx cs.toList) 16) (bO (sm cs.toList) fun x=>fN x fun x=>k (Hj (Nat.mod x El)) (Hj (Nat.div x El))) none
 | _=>none
def AZ (v:Value) (k:Int→Option Value):Option Value:=match v with
 | .agg cs=>iB (Nat.beq (zx cs.toList) 8) (bO (sm cs.toList) fun x=>fN x fun x=>k (Hj x)) none
 | _=>none
def SA (v:Value) (k:Int→Option Value):Option Value:=match v with
 | .int .i64 z=>k z
 | _=>none
def VN (n d:Int):Value:=Int.rec (motive:=fun _=>Value) (fun b=>wq n (.ofNat b)) (fun b=>wq (Int.neg n) (.ofNat (Nat.succ b))) d
def F1 (z:Int):Bool:=Int.rec (motive:=fun _=>Bool) (fun n=>Nat.ble (Nat.succ n) 9223372036854775808) (fun n=>Nat.ble (Nat.succ n) 9223372036854775808) z
def Nt (z:Int):Bool:=Int.rec (motive:=fun _=>Bool) (fun n=>Nat.beq n 0) (fun _=>false) z
def SZ (x y:Int):Int:=Int.rec (motive:=fun _=>Int) (fun n=>Nat.rec (motive:=fun _=>Int) 0 (fun _ _=>1) n) (fun _ => -1) (Int.sub x y)
def of2 (l:List Value):Option Value:=match l with
 | [n,d]=>SA n fun n=>SA d fun d=>iB (F1 n) (iB (F1 d) (iB (Nt d) none (some (VN n d))) none) none
 | _=>none
def Ps (l:List Value):Option Value:=match l with
 | [n,d]=>AZ n fun n=>AZ d fun d=>iB (Nt d) none (some (VN n d))
 | _=>none
def Iu (l:List Value):Option Value:=match l with
 | [a]=>sE a fun n d=>some (.int .i64 (iB (okF n d) 0 20))
 | _=>none
def UI (of:Int→Int→Int→Int→Option Value) (l:List Value):Option Value:=match l with
 | [a,b]=>sE a fun n d=>iB (okF n d) (sE b fun m e=>iB (okF m e) (of n d m e) none) none
 | _=>none
def XO (l:List Value):Option Value:=UI (fun n d m e=>some (.tuple #[.int .i64 (SZ (Int.mul n e) (Int.mul m d)),.int .i64 0])) l
end
end Go.Id

namespace Go.Id
open Go
theorem CD:El=W8:=by rw[se];decide +kernel
theorem Kf:MI=H8:=by unfold H8;decide +kernel
theorem pP : ∀(l:List Value) (x:Nat),sm l=some x→x<18446744073709551616 ^ l.length∧l=(List.range l.length).map fun i=>K64 (wrd x i)
 | [],x,h=>by
  cases h;exact⟨by decide,rfl⟩
 | v :: l,x,h=>by
  change NH v (sm l)=some x at h
  unfold NH at h
  split at h
  case h_2=>cases h
  rename_i w
  obtain⟨h0,h⟩:=cA h
  cases hr:sm l with
  | none=>rw[hr] at h;cases h
  | some r =>
   rw[hr] at h
   cases h
   obtain⟨a,b⟩:=pP l r hr
   have hw:w<18446744073709551616:=qH.1 h0
   show w+18446744073709551616*r<18446744073709551616 ^ (l.length+1)∧_
   refine⟨?_,?_⟩
   ·rw[Nat.pow_succ]
    have:(r+1)*18446744073709551616≤18446744073709551616 ^ l.length*18446744073709551616:=Nat.mul_le_mul_right _ a
    omega
   ·show _=(List.range (l.length+1)).map fun i=>K64 (wrd (w+18446744073709551616*r) i)
    rw[List.range_succ_eq_map,List.map_cons,List.map_map]
    have e0:wrd (w+18446744073709551616*r) 0=w:=by unfold wrd;rw[Nat.pow_zero,Nat.div_one];omega
    have e1 : ∀i,wrd (w+18446744073709551616*r) (i+1)=wrd r i:=fun i=>by
     unfold wrd
     rw[Nat.pow_succ,Nat.mul_comm (18446744073709551616 ^ i),←Nat.div_div_eq_div_mul,show(w+18446744073709551616*r) / 18446744073709551616=r from by omega]
    rw[e0]
    congr 1
    refine b.trans (List.map_congr_left fun i _=>?_)
    show _=K64 (wrd (w+18446744073709551616*r) (i+1))
    rw[e1]
theorem NA (x i:Nat) (hi:i<8):wrd (x % 18446744073709551616 ^ 8) i=wrd x i:=by
 have h:=mE (n:=x % 18446744073709551616 ^ 8) (x:=x / 18446744073709551616 ^ 8) hi
 rw[←h,show x % 18446744073709551616 ^ 8+x / 18446744073709551616 ^ 8*18446744073709551616 ^ 8=x from by rw[Nat.mul_comm];exact Nat.mod_add_div _ _]
theorem NB (x i:Nat):wrd (x / 18446744073709551616 ^ 8) i=wrd x (8+i):=by
 unfold wrd
 rw[Nat.div_div_eq_div_mul,←Nat.pow_add]
theorem Rv (x:Nat):((List.range 16).map fun i=>K64 (wrd x i))=shC (x % W8) (x / W8):=by
 rw[shC,wdC,wdC,se,show(16:Nat)=8+8 from rfl,List.range_add,List.map_append,List.map_map]
 congr 1
 ·exact List.map_congr_left fun i hi=>by rw[NA x i (by simpa using hi)]
 ·exact List.map_congr_left fun i hi=>by
   show K64 (wrd x (8+i))=_
   rw[NB]
theorem CS {n:Nat} (hn:n<W8):Hj n=wdI n:=by
 have e1:=Kf
 have e2:=CD
 have e3:=tz
 unfold Hj wdI
 rw[dW,e1,e2]
 by_cases h:n<H8
 ·rw[if_pos h,qH.2 h];rfl
 ·rw[if_neg h,Bool.eq_false_iff.2 (fun hb=>h (qH.1 hb))]
  show Int.negSucc (W8 - n - 1)=_
  omega
theorem mH {v:Value} {k:Int→Int→Option Value} {r:Value} (h:sE v k=some r) : ∃p:Nat×Nat,(p.1<W8∧p.2<W8)∧v=shV p.1 p.2∧k (wdI p.1) (wdI p.2)=some r:=by
 unfold sE at h
 split at h
 case h_2=>cases h
 rename_i cs
 obtain⟨h0,h⟩:=cA h
 have hl:cs.toList.length=16:=by rw[←jX];exact Nat.beq_eq.mp h0
 cases hx:sm cs.toList with
 | none=>rw[hx] at h;cases h
 | some x =>
  rw[hx,aW,dN] at h
  obtain⟨a,b⟩:=pP _ _ hx
  rw[hl] at a b
  have ex:x<W8*W8:=by rw[se,←Nat.pow_add];exact a
  have hp:0<W8:=by have:=tz;have:=jq;omega
  have q1:x % W8<W8:=Nat.mod_lt _ hp
  have q2:x / W8<W8:=by rw[Nat.div_lt_iff_lt_mul hp];exact ex
  refine⟨(x % W8,x / W8),⟨q1,q2⟩,?_,?_⟩
  ·rw[shV,←Rv,←b]
  ·have h2:k (Hj (x % El)) (Hj (x / El))=some r:=h
   rw[CD,CS q1,CS q2] at h2
   exact h2
theorem sC {v:Value} {k:Int→Option Value} {r:Value} (h:AZ v k=some r) : ∃n:Nat,n<W8∧v=wdV n∧k (wdI n)=some r:=by
 unfold AZ at h
 split at h
 case h_2=>cases h
 rename_i cs
 obtain⟨h0,h⟩:=cA h
 have hl:cs.toList.length=8:=by rw[←jX];exact Nat.beq_eq.mp h0
 cases hx:sm cs.toList with
 | none=>rw[hx] at h;cases h
 | some x =>
  rw[hx,aW,dN] at h
  obtain⟨a,b⟩:=pP _ _ hx
  rw[hl] at a b
  have q1:x<W8:=by rw[se];exact a
  refine⟨x,q1,?_,?_⟩
  ·rw[wdV,wdC,←b]
  ·rw[CS q1] at h
   exact h
theorem qZ {v:Value} {k:Int→Option Value} {r:Value} (h:SA v k=some r) : ∃z:Int,v=KI z∧k z=some r:=by
 unfold SA at h
 split at h
 case h_2=>cases h
 exact⟨_,rfl,h⟩
theorem qO (tl:List Value) : ∀(k x:Nat),pO k x tl=((List.range k).map fun i=>K64 (wrd x i)) ++ tl
 | 0,_=>rfl
 | k+1,x=>by
  show fN (x % 18446744073709551616) (fun w=>Value.int .u64 (.ofNat w) :: pO k (x / 18446744073709551616) tl)=_
  rw[dN,qO tl k,List.range_succ_eq_map,List.map_cons,List.map_map,List.cons_append]
  have e0:wrd x 0=x % 18446744073709551616:=by unfold wrd;rw[Nat.pow_zero,Nat.div_one]
  rw[e0]
  congr 2
  refine List.map_congr_left fun i _=>?_
  show _=K64 (wrd x (i+1))
  unfold wrd
  rw[Nat.pow_succ,Nat.mul_comm (18446744073709551616 ^ i),Nat.div_div_eq_div_mul]
theorem yr {z:Int} (hz:InW z):IW z=bW z:=by
 have e2:=CD
 unfold bW
 cases z with
 | ofNat n=>rfl
 | negSucc n =>
  show El - (n+1)=_
  rw[e2,if_neg (by omega)];rfl
theorem KO {a b:Int} (ha:InW a) (hb:InW b):Nq a b=shV (bW a) (bW b):=by
 unfold Nq shV shC wdC
 rw[qO,qO,yr ha,yr hb,List.append_nil]
theorem HV (z:Int):inF z=decide (InW z):=by
 have e1:=Kf
 have:=jq
 rw[Bool.eq_iff_iff,decide_eq_true_eq]
 unfold InW
 cases z with
 | ofNat n =>
  show Nat.ble (n+1) MI=true ↔ -(H8:Int)≤(n:Int)∧(n:Int)<H8
  rw[qH,e1]
  omega
 | negSucc n =>
  show Nat.ble (n+1) MI=true↔_
  rw[qH,e1]
  omega
theorem yy {n d:Int} (hd:0<d):wq n d=rL (Rat.divInt n d):=by
 obtain⟨a,b⟩:=oS (n:=n) hd
 have z0:InW 0:=⟨by have:=jq;omega,by have:=jq;omega⟩
 have zz:Nq 0 0=shV 0 0:=by rw[KO z0 z0];rfl
 unfold wq rL
 rw[dN,dW,dW,HV,HV]
 rw[show Int.ediv n (Int.ofNat (Int.gcd n d))=(Rat.divInt n d).num from a,show Int.ediv d (Int.ofNat (Int.gcd n d))=(Rat.divInt n d).den from b,zz]
 unfold QW
 by_cases c1:InW (Rat.divInt n d).num
 ·by_cases c2:InW ((Rat.divInt n d).den:Int)
  ·rw[if_pos ⟨c1,c2⟩,decide_eq_true c1,decide_eq_true c2,KO c1 c2];rfl
  ·rw[if_neg (fun h=>c2 h.2),decide_eq_true c1,decide_eq_false c2];rfl
 ·rw[if_neg (fun h=>c1 h.1),decide_eq_false c1];rfl
theorem JC (z:Int):WC z=decide (0<z):=by
 rw[Bool.eq_iff_iff,decide_eq_true_eq]
 cases z with
 | ofNat n =>
  show Nat.ble 1 n=true↔0<(n:Int)
  rw[qH];omega
 | negSucc n=>exact⟨fun h=>Bool.noConfusion h,fun h=>absurd h (by omega)⟩
theorem ym (z:Int):Nt z=decide (z=0):=by
 rw[Bool.eq_iff_iff,decide_eq_true_eq]
 cases z with
 | ofNat n =>
  show Nat.beq n 0=true↔(n:Int)=0
  rw[Nat.beq_eq];omega
 | negSucc n=>exact⟨fun h=>Bool.noConfusion h,fun h=>absurd h (by omega)⟩
theorem ir {z:Int} (h:F1 z=true):jP z:=by
 unfold jP
 cases z with
 | ofNat n =>
  have:=qH.1 (show Nat.ble (Nat.succ n) 9223372036854775808=true from h)
  show _≤(n:Int)∧(n:Int)<_
  omega
 | negSucc n =>
  have:=qH.1 (show Nat.ble (Nat.succ n) 9223372036854775808=true from h)
  omega
theorem Da {n d:Nat} (h:okF (wdI n) (wdI d)=true):okS n d:=by
 unfold okF at h
 rw[dW,JC] at h
 by_cases c:0<wdI d
 ·rw[decide_eq_true c] at h
  exact⟨c,Nat.beq_eq.mp h⟩
 ·rw[decide_eq_false c] at h;cases h
theorem okF_eq (n d:Nat):okF (wdI n) (wdI d)=(open Classical in decide (okS n d)):=by
 rw[Bool.eq_iff_iff,decide_eq_true_eq]
 refine⟨Da,fun h=>?_⟩
 unfold okF
 rw[dW,JC,decide_eq_true h.1]
 exact Nat.beq_eq.mpr h.2
theorem DK {n d:Int} (hd:d≠0):VN n d=rL (Rat.divInt n d):=by
 cases d with
 | ofNat b =>
  show wq n (b:Int)=rL (Rat.divInt n (b:Int))
  have:(b:Int)≠0:=hd
  exact yy (by omega)
 | negSucc b =>
  show wq (-n) ((b+1:Nat):Int)=_
  rw[yy (by omega)]
  congr 1
theorem SY (x y:Int):SZ x y=if x<y then -1 else if x=y then 0 else 1:=by
 unfold SZ
 have e:Int.sub x y=x - y:=rfl
 rw[e]
 cases h:x - y with
 | ofNat n =>
  have h:x - y=(n:Int):=h
  cases n with
  | zero=>rw[if_neg (by omega),if_pos (by omega)];rfl
  | succ m=>rw[if_neg (by omega),if_neg (by omega)]
 | negSucc n=>rw[if_pos (by omega)]
theorem Bc {n d:Int} (hn:jP n) (hd:jP d) (d0:d≠0):rL (Rat.divInt n d)=.tuple #[pY (Rat.divInt n d),KI 0]:=by
 unfold rL
 rw[if_pos (vi hn hd d0)]
theorem qQ {n:Nat} (hn:n<W8):bW (wdI n)=n:=by
 have e3:=tz
 unfold bW wdI
 split
 ·rw[if_pos (by omega)];omega
 ·rw[if_neg (by omega)];omega
abbrev Val (f:Value) (g:List Value→Option Value):Prop:=∀args v,args.all plain=true→g args=some v→lY v=true∧WV Proofs.Tryz.prog f args (IH.start fun _=>none) fun r _=>r=v
theorem BA (n d:Nat):plain (shV n d)=true:=by
 show(shC n d).toArray.all bJ=true
 rw[shC,wdC,wdC,List.all_toArray,List.all_append,List.all_map,List.all_map]
 simp[bJ]
theorem mK (q:Rat):lY (rL q)=true:=by
 obtain⟨n,d,e,h⟩:=G2 q
 rw[h]
 show [shV n d,KI e].all plain=true
 rw[List.all_cons,BA];rfl
theorem UD:Val (.func (.func 108) #[] #[]) of2:=by
 intro args v _ h
 unfold of2 at h
 split at h
 case h_2=>cases h
 obtain⟨n,e0,k⟩:=qZ h
 clear h;subst e0;have h:=k;clear k
 obtain⟨d,e0,k⟩:=qZ h
 clear h;subst e0;have h:=k;clear k
 obtain⟨h1,h⟩:=cA h
 obtain⟨h2,h⟩:=cA h
 obtain⟨h3,h⟩:=mf h
 cases h
 have d0:d≠0:=by rw[ym] at h3;exact of_decide_eq_false h3
 have e:=Bc (ir h1) (ir h2) d0
 rw[DK d0]
 exact⟨mK _,(RQ n d (ir h1) (ir h2) d0).mono fun r h' k=>k.2.trans e.symm⟩
theorem NU:Val (.func (.func 43) #[] #[]) of2:=by
 intro args v _ h
 unfold of2 at h
 split at h
 case h_2=>cases h
 obtain⟨n,e0,k⟩:=qZ h
 clear h;subst e0;have h:=k;clear k
 obtain⟨d,e0,k⟩:=qZ h
 clear h;subst e0;have h:=k;clear k
 obtain⟨h1,h⟩:=cA h
 obtain⟨h2,h⟩:=cA h
 obtain⟨h3,h⟩:=mf h
 cases h
 have d0:d≠0:=by rw[ym] at h3;exact of_decide_eq_false h3
 have e:=Bc (ir h1) (ir h2) d0
 rw[DK d0]
 exact⟨mK _,(sH n d (ir h1) (ir h2) d0).mono fun r h' k=>k.2.trans e.symm⟩
theorem NW:Val (.func (.func 197) #[] #[]) Ps:=by
 intro args v _ h
 unfold Ps at h
 split at h
 case h_2=>cases h
 obtain⟨n,hn,e0,k⟩:=sC h
 clear h;subst e0;have h:=k;clear k
 obtain⟨d,hd,e0,k⟩:=sC h
 clear h;subst e0;have h:=k;clear k
 obtain⟨h3,h⟩:=mf h
 cases h
 have d0:wdI d≠0:=by rw[ym] at h3;exact of_decide_eq_false h3
 rw[DK d0]
 exact⟨mK _,(Bo n d hn hd (fun e=>d0 ((ow hd).2 e))).mono fun r h' k=>k.2⟩
theorem K9:Val (.func (.func 113) #[] #[]) Iu:=by
 intro args v _ h
 unfold Iu at h
 split at h
 case h_2=>cases h
 obtain⟨p,hp,e0,k⟩:=mH h
 clear h;subst e0;have h:=k;clear k
 cases h
 rw[okF_eq,dW]
 refine⟨rfl,(sD p.1 p.2 hp.1 hp.2).mono fun r h' k=>k.2.trans ?_⟩
 by_cases c:okS p.1 p.2
 ·rw[if_pos c,decide_eq_true c];rfl
 ·rw[if_neg c,decide_eq_false c];rfl
theorem Lf {of:Int→Int→Int→Int→Option Value} {l:List Value} {v:Value} (h:UI of l=some v) : ∃p q:Nat×Nat,(p.1<W8∧p.2<W8)∧(q.1<W8∧q.2<W8)∧okS p.1 p.2∧okS q.1 q.2∧l = [shV p.1 p.2,shV q.1 q.2]∧of (wdI p.1) (wdI p.2) (wdI q.1) (wdI q.2)=some v:=by
 unfold UI at h
 split at h
 case h_2=>cases h
 obtain⟨p,hp,e0,k⟩:=mH h
 clear h;subst e0;have h:=k;clear k
 obtain⟨ok1,h⟩:=cA h
 obtain⟨q,hq,e0,k⟩:=mH h
 clear h;subst e0;have h:=k;clear k
 obtain⟨ok2,h⟩:=cA h
 exact⟨p,q,hp,hq,Da ok1,Da ok2,rfl,h⟩
theorem RD:Val (.func (.func 36) #[] #[]) XO:=by
 intro args v _ h
 obtain⟨p,q,hp,hq,ok1,ok2,e0,k⟩:=Lf h
 clear h;subst e0;have h:=k;clear k
 cases h
 refine⟨rfl,(Ou hp hq ok1 ok2).mono fun r h' k=>k.2.trans ?_⟩
 have e:SZ (Int.mul (wdI p.1) (wdI q.2)) (Int.mul (wdI q.1) (wdI p.2))=if rOf p<rOf q then -1 else if rOf p=rOf q then 0 else 1:=by
  rw[SY,←DM,(dZ ok1).1,(dZ ok1).2,(dZ ok2).1,(dZ ok2).2];rfl
 rw[e]
theorem OO (x y:Rat):x - y=Rat.divInt (x.num*y.den - y.num*x.den) ((x.den:Int)*y.den):=by
 rw[show x - y=x + -y from by grind,ua,Rat.neg_num,Rat.neg_den]
 congr 1
 grind
end Go.Id

namespace Go.Id
open Go
def Wj (h:IH) (v:Value) (l:List Int):Prop:=bI h 1 v l.length (l.map KI)∧l.length≤1000000000 ∧ ∀x∈l,jP x
end Go.Id

namespace Go.Id
open Go
end Go.Id

namespace Go.Id
open Go
end Go.Id

namespace Go.Id
open Go
section
variable {P:Program}
theorem uc {e:TypeId} (hA:bE P e=some false) {cs:Array Value} {off:Nat} {v:Value} (hv:cs[off]?=some v):az P (part e cs off)=some v:=by
 unfold part
 have h1:az P (isAgg e)=some false:=by
  unfold isAgg
  simp only[bE,Option.map_eq_some_iff] at hA
  obtain⟨d,hd,hA⟩:=hA
  rw[cz (dM hd)]
  cases d<;>first|rfl|(simp at hA)
 rw[cz h1]
 simp only[Bool.false_eq_true,if_false,hv]
 rfl
theorem LP (body:Field→Option Bool×Unit→Sem (ForInStep (Option Bool×Unit))) (g:Option Bool×Unit→Sem Bool) (e:Field→Bool) : ∀fs:List Field,
  (∀f∈fs,∀r,az P (body f r)=some (if e f=true then .yield (none,()) else .done (some false,()))) →
  az P (forIn fs ((none,()):Option Bool×Unit) body >>= g)=az P (g (if fs.all e=true then (none,()) else (some false,()))):=by
 have assoc : ∀(s:Sem (ForInStep (Option Bool×Unit))) (g1:ForInStep (Option Bool×Unit)→Sem (Option Bool×Unit)) (f2:Option Bool×Unit→Sem Bool),az P ((s >>= g1) >>= f2)=az P (s >>= fun x=>g1 x >>= f2):=fun s g1 f2=>by
  show az P ((s.bind g1).bind f2)=az P (s.bind fun x=>(g1 x).bind f2)
  rw[cS,cS,cS]
  cases az P s with
  | none=>rfl
  | some a=>simp only[Option.bind_some];rw[cS]
 intro fs
 induction fs with
 | nil=>intro _;rfl
 | cons f fs ih =>
  intro hi
  have h1:=hi f (by simp) (none,())
  rw[List.forIn_cons,assoc,cz h1,List.all_cons]
  cases hc:e f with
  | true =>
   rw[Bool.true_and,←ih fun j hj=>hi j (by simp[hj])]
   rfl
  | false =>
   rw[Bool.false_and]
   rfl
theorem xD {t:TypeId} {fs:Array Field} (hT:P.underlying t=some (.struct fs)) (hs:P.stoodInHeld t=false) (d:Nat) (xs ys:Array Value) (e:Field→Bool)
  (h : ∀f∈fs.toList,f.name ≠ "_" ∧ ∃a b,az P (part f.type xs f.offset)=some a∧az P (part f.type ys f.offset)=some b∧az P (Op.equalIn d f.type a b)=some (e f)) :
  az P (Op.equalIn (d+1) t (.agg xs) (.agg ys))=some (fs.toList.all e):=by
 unfold Op.equalIn
 rw[cz (dM hT)]
 simp only
 rw[cz (show az P program=some P from rfl),hs]
 simp only[Bool.false_eq_true,if_false]
 rw[←Array.forIn_toList]
 rw[LP _ _ e fs.toList]
 ·cases fs.toList.all e<;>rfl
 ·intro f hf r
  obtain⟨hn,a,b,h1,h2,h3⟩:=h f hf
  simp only[hn,ne_eq,not_false_eq_true,if_true]
  rw[cz h1,cz h2,cz h3]
  cases e f<;>rfl
end
end Go.Id

namespace Go.Id
open Go
end Go.Id

namespace Go.Id
open Go
end Go.Id

namespace Go.Id
open Go
end Go.Id

namespace Go.Id
open Go
end Go.Id

namespace Go.Id
open Go
end Go.Id

namespace Go.Id
open Go
abbrev Reg:=Int×Int×Int
def Y6 (r:Reg):List Value:=[KI r.1,KI r.2.1,KI r.2.2]
def YZ (l:List Reg):List Value:=l.flatMap Y6
def TU (won low:List Int) (n:Nat):Prop:=∀i,i<n→0≤low.getD i 0∧low.getD i 0≤won.getD i 0
instance (won low:List Int) (n:Nat):Decidable (TU won low n):=inferInstanceAs (Decidable (∀i,i<n→_))
def UW (vu won low:List Int) (n:Nat):List Reg:=(List.range n).map fun i=>(vu.getD i 0,won.getD i 0,low.getD i 0)
structure OX (h H1 hh:IH) (fr:Fr) (vp vw vl:Value) (m:Int) (vu won low:List Int) (b:Nat) (i:Nat) (out:Value):Prop where
 e:Ext h hh
 k:aN H1 hh
 sp:bI H1 1 vp vu.length (vu.map KI)
 sw:bI H1 1 vw won.length (won.map KI)
 sl:bI H1 1 vl low.length (low.map KI)
 bn:h.n<b∧b<hh.n
 g8:hh.ext.get h.n=some (.cells [KI 0,.slice none 0 0] 0 none)
 g11:hh.ext.get b=some (.cells [KI m,out] 0 none)
 acc:Acc hh h.n 3 out i (YZ (UW vu won low i))
 lw:TU won low i
 f1:ai fr 1=some vw
 f3:ai fr 3=some vl
 f8:ai fr 8=some (ptr (2*h.n) 0)
 f11:ai fr 11=some (ptr (2*b) 0)
 f12:ai fr 12=some (KI (won.take i).sum)
 f52:ai fr 52=some vp
 f53:ai fr 53=some (KI vu.length)
 f54:ai fr 54=some (KI i)
end Go.Id
