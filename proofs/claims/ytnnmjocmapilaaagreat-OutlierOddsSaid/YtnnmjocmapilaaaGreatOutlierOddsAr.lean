/-
  The ideal machine written for the kernel, third part: regions, code, calls.
-/
import Derived.Test.YtnnmjocmapilaaaGreatOutlierOddsAq
set_option linter.unusedVariables false
set_option linter.unusedSimpArgs false
set_option linter.defProp false
set_option linter.deprecated false
namespace Go.Id
open Go
open Go renaming Operand→QY,Program→QX,TypeId→QZ,Value→QQ
open Nat renaming reduceAdd→zA,reduceEqDiff→zE,reduceLeDiff→zL
open Nat (reduceMul)
set_option maxHeartbeats 16000000
noncomputable section
def Qo (ops:List Oper) (g:Nat×Bool) (fr:Fr):Option Bool:=bO ((ops[g.1]?).bind (·.dst)) fun d=>bO (zY fr d) fun v=>match v with
 | .bool b=>some (b == g.2)
 | .tuple _=>some false
 | _=>none
theorem Lf (ops:List Oper) (o:Oper) (j:Nat) (w:Bool) (fr:Fr) (hg:o.guard=some (j,w)):Qo ops (j,w) fr=cC ops o fr:=by
 unfold Qo cC;rw[hg];simp only[tq];cases(ops[j]?).bind (·.dst) with
 | none=>rfl
 | some d =>
  simp only[bL];cases aj fr d with
  | none=>rfl
  | some v=>cases v<;>rfl
def stepG (E:Env) (call:cQ) (nt:Nat) (o:Oper) (fr:Fr) (h:IH):Option (Fr×IH):=bO (ZcU o.op E call fr h) (Prod.rec fun v h=>bO (V3 nt fr o.dst v) fun fr=>some (fr,h))
def GB (E:Env) (call:cQ) (nt:Nat) (ops:List Oper) (o:Oper) (fr:Fr) (h:IH):Option (Fr×IH) :=
 Option.rec (motive:=fun _=>Option (Fr×IH)) (stepG E call nt o fr h) (fun g=>bO (Qo ops g fr) fun w=>iB w (stepG E call nt o fr h) (bO (V3 nt fr o.dst undef) fun fr=>some (fr,h))) o.guard
def Ly (E:Env) (call:cQ) (nt:Nat) (o:Oper) (fr:Fr) (h:IH):stepG E call nt o fr h=match fw E call fr o.op h with
  | some (v,h)=>(qT nt fr o.dst v).map (·,h)
  | none=>none:=by
 unfold stepG;rw[QL];cases fw E call fr o.op h with
 | none=>rfl
 | some p =>
  obtain⟨v,h⟩:=p;simp only[bL,Jq];cases qT nt fr o.dst v<;>rfl
theorem Lz (E:Env) (call:cQ) (nt:Nat) (ops:List Oper) (o:Oper) (fr:Fr) (h:IH):GB E call nt ops o fr h=ft E call nt ops o fr h:=by
 unfold GB ft;cases hg:o.guard with
 | none =>
  rw[show cC ops o fr=some true from by unfold cC;rw[hg]];exact Ly E call nt o fr h
 | some g =>
  obtain⟨j,w⟩:=g;simp only;rw[Lf ops o j w fr hg];cases cC ops o fr with
  | none=>rfl
  | some b =>
   cases b with
   | true=>exact Ly E call nt o fr h
   | false =>
    simp only[bL,vY,Jq];cases qT nt fr o.dst undef<;>rfl
def wN (E:Env) (call:cQ) (nt:Nat) (ops l:List Oper) (fr:Fr) (h:IH):Option (Fr×IH):=List.rec (motive:=fun _=>Fr→IH→Option (Fr×IH)) (fun fr h=>some (fr,h)) (fun o _ ih fr h=>bO (GB E call nt ops o fr h) (Prod.rec ih)) l fr h
theorem yh (E:Env) (call:cQ) (nt:Nat) (ops:List Oper) : ∀(l:List Oper) (fr:Fr) (h:IH),wN E call nt ops l fr h=iX E call nt ops l fr h
 | [],_,_=>rfl
 | o :: l,fr,h=>by
  show bO (GB E call nt ops o fr h) (Prod.rec (wN E call nt ops l))=_;rw[Lz,iX];cases ft E call nt ops o fr h with
  | none=>rfl
  | some p=>exact yh E call nt ops l p.1 p.2
def I2 (E:Env) (call:cQ) (nt:Nat) (ops l:List Oper) (fr:Fr) (h:IH):Option (List (Fr×IH)):=List.rec (motive:=fun _=>Fr→IH→Option (List (Fr×IH))) (fun fr h=>some [(fr,h)]) (fun o _ ih fr h=>bO (GB E call nt ops o fr h) (Prod.rec fun fr' h'=>bO (ih fr' h') fun l=>some ((fr,h) :: l))) l fr h
def Gx (E:Env) (call:cQ) (nt:Nat) (ops:List Oper) : ∀(l:List Oper) (fr:Fr) (h:IH),I2 E call nt ops l fr h=trace E call nt ops l fr h
 | [],_,_=>rfl
 | o :: l,fr,h=>by
  show bO (GB E call nt ops o fr h) (Prod.rec fun fr' h'=>bO (I2 E call nt ops l fr' h') fun l=>some ((fr,h) :: l))=_;rw[Lz,trace];cases ft E call nt ops o fr h with
  | none=>rfl
  | some p =>
   obtain⟨fr',h'⟩:=p;simp only[bL,Gx E call nt ops l];cases trace E call nt ops l fr' h'<;>rfl
def Zaj (E:Env) (fr:Fr) (o:Op) (h:IH):Option (QQ×IH):=ZcU o E (fun _ _ _=>none) fr h
theorem RF (E:Env) (fr:Fr) (o:Op) (h:IH):Zaj E fr o h=iop E.P fr o h:=by
 unfold Zaj;rw[QL];cases o<;>try rfl
 rename_i c;simp only[fw,iop];cases c.callee with
 | value f=>simp only;cases opd fr f<;>cases jV fr c.args.toList<;>rfl
 | _=>rfl
def AK (E:Env) (fr:Fr) (o:Op) (h h':IH):Bool :=
 match Zaj E fr o h,Zaj E fr o h' with
 | some (v,_),some (v',_)=>eqV v v'
 | _,_=>false
def Qn (ops:List Oper) (o:Oper) (fr:Fr):Option Bool:=Option.rec (motive:=fun _=>Option Bool) (some true) (fun g=>Qo ops g fr) o.guard
def Vd (ops:List Oper) (o:Oper) (fr:Fr):Qn ops o fr=cC ops o fr:=by
 unfold Qn;cases hg:o.guard with
 | none=>unfold cC;rw[hg]
 | some g=>exact Lf ops o g.1 g.2 fr hg
def Jb (E:Env) (ops:List Oper) (tr:List (Fr×IH)) (pl:List (Nat×List Nat)):Bool :=
 pl.all fun e=>match ops[e.1]?,tr[e.1]? with
  | some o,some (fr,h)=>match Qn ops o fr with
   | some true=>e.2.all fun p=>match tr[p]? with
    | some (_,h')=>AK E fr o.op h h'
    | none=>false
   | _=>true
  | _,_=>false
def Ok (E:Env) (ops:List Oper) (tr:List (Fr×IH)) (pl:List (Nat×List Nat)):Jb E ops tr pl=steady E.P ops tr pl:=by
 have e:AK E=jH E.P:=by funext fr o h h';unfold AK jH;rw[RF,RF];rfl
 have e2:Qn=cC:=by funext ops o fr;exact Vd ops o fr
 unfold Jb steady;rw[e,e2];rfl
def Wa (ops:List Oper):Option (List (Nat×List Nat)):=bif pA ops then some (Ch ops) else none
def Ko (E:Env) (call:cQ) (nt:Nat) (ops:List Oper) (fr:Fr) (h:IH):Option (Fr×IH):=bO (Wa ops) (List.rec (motive:=fun _=>Option (Fr×IH)) (wN E call nt ops ops fr h) (fun a l _=>bO (I2 E call nt ops ops fr h) fun tr=>iB (Jb E ops tr (a :: l)) tr[ops.length]? none))
theorem DB (E:Env) (call:cQ) (nt:Nat) (ops:List Oper) : ∀(l:List Oper) (fr:Fr) (h:IH),(match trace E call nt ops l fr h with|none=>none|some tr=>tr[l.length]?)=iX E call nt ops l fr h
 | [],_,_=>rfl
 | o :: l,fr,h=>by
  rw[trace,iX];cases ft E call nt ops o fr h with
  | none=>rfl
  | some p =>
   obtain⟨fr',h'⟩:=p;simp only;rw[←DB E call nt ops l fr' h'];cases trace E call nt ops l fr' h'<;>rfl
theorem Uk (E:Env) (call:cQ) (nt:Nat) (ops:List Oper) (fr:Fr) (h:IH):Ko E call nt ops fr h=kB E call nt ops fr h:=by
 unfold Ko kB Wa;cases ho:pA ops with
 | false=>cases trace E call nt ops ops fr h<;>rfl
 | true =>
  simp only[bP,bL,Bool.true_and];cases hp:Ch ops with
  | nil =>
   show wN E call nt ops ops fr h=_;rw[yh,←DB];cases trace E call nt ops ops fr h<;>rfl
  | cons a l =>
   show bO (I2 E call nt ops ops fr h) _=_;simp only[Gx,Ok,iz];cases trace E call nt ops ops fr h<;>rfl
abbrev Sm:=Fr→IH→Out
def Zbo:Sm:=fun fr h=>some (.normal,fr,h)
def Zgh (i:Nat):Sm:=fun fr h=>some (.exit i,fr,h)
def retC:Sm:=fun fr h=>some (.ret,fr,h)
def noC:Sm:=fun _ _=>none
def FL (k:Sm) (p:cL×Fr×IH):Out:=Prod.rec (fun e q=>cL.rec (motive:=fun _=>Out) (Prod.rec (fun fr h=>k fr h) q) (fun i=>some (.exit i,q)) (some (.ret,q)) e) p
def seqC (a b:Sm):Sm:=fun fr h=>bO (a fr h) (FL b)
def Zgm (c:QY) (a b:Sm):Sm:=fun fr h=>bO (fe c fr) fun v=>match v with
 | .bool t=>iB t a b fr h
 | _=>none
def P1 (id:Nat) (b:Sm):Sm:=fun fr h=>bO (b fr h) (Prod.rec fun e q=>cL.rec (motive:=fun _=>Out) (some (.normal,q)) (fun i=>iB (Nat.beq i id) (some (.normal,q)) (some (.exit i,q))) (some (.ret,q)) e)
def Pj (b:Sm) (n:Nat):Sm:=Nat.rec (motive:=fun _=>Sm) noC (fun _ ih fr h=>bO (b fr h) (FL ih)) n
theorem Ik (k:Sm) (o:Out):bO o (FL k)=match o with
  | some (.normal,fr,h)=>k fr h
  | some (.exit i,fr,h)=>some (.exit i,fr,h)
  | some (.ret,fr,h)=>some (.ret,fr,h)
  | none=>none:=by
 cases o with
 | none=>rfl
 | some p =>
  obtain⟨e,fr,h⟩:=p;cases e<;>rfl
theorem Hj (b:Sm) : ∀n,Pj b n=qq b n
 | 0=>by funext fr h;rfl
 | n+1=>by funext fr h;show bO (b fr h) (FL (Pj b n))=_;rw[Ik,Hj b n];rfl
def JO (b:Code):Bool:=match b with
 | .seq (.region _ ops draw) _=>(vT ops.toList draw).isSome
 | _=>false
def WH (E:Env) (call:cQ) (fn:FuncId) (nt:Nat) (rd:Option Nat) (n:Nat) (b:Code) (ih:Sm):Sm:=iB (JO b) (evC E call fn nt rd n (.loop b)) (Pj ih n)
def RB {β:Type} (fr:Fr) (l:List Nat) (k:Fr→β):β:=List.rec (motive:=fun _=>(Fr→β)→β) (fun k=>k []) (fun t _ ih k=>Option.rec (motive:=fun _=>β) (ih k) (fun v=>ih fun r=>k ((t,v) :: r)) (zY fr t)) l k
variable {β:Type}
def Ez (fr:Fr) : ∀(l:List Nat) (k:Fr→β),RB fr l k=k (ig fr l)
 | [],_=>rfl
 | t :: l,k=>by
  show Option.rec (motive:=fun _=>β) (RB fr l k) (fun v=>RB fr l fun r=>k ((t,v) :: r)) (zY fr t)=_;rw[tq,ig];cases aj fr t with
  | none=>exact Ez fr l k
  | some v=>exact Ez fr l _
def RJ {β:Type} (E:Env) (fn:FuncId) (id:Nat) (fr:Fr) (k:Fr→β):β:=Option.rec (motive:=fun _=>β) (k fr) (fun l=>RB fr l k) (E.lv fn id)
theorem W9 (E:Env) (fn:FuncId) (id:Nat) (fr:Fr) (k:Fr→β):RJ E fn id fr k=k (kG E fn id fr):=by
 unfold RJ kG;cases E.lv fn id with
 | none=>rfl
 | some l=>exact Ez fr l k
def Zz (E:Env) (call:cQ) (fn:FuncId) (nt:Nat) (id:Nat) (ops:Array Oper) (draw:Bool):Sm:=fun fr h=>RJ E fn id fr fun fr=>bO (iB draw (Ko E call nt ops.toList fr h) (wN E call nt ops.toList ops.toList fr h)) fun q=>some (.normal,q)
def rr (h:IH) (k:Nat):Option kN:=bO (yW h.ext k) fun o=>match o with
 | .loop r=>some r
 | _=>none
theorem yu (h:IH) (k:Nat):rr h k=ja h k:=by
 unfold rr ja;rw[pY];cases h.ext.get k with
 | none=>rfl
 | some o=>cases o<;>rfl
def VO (h:IH) (rd:Option Nat):Bool:=Option.rec (motive:=fun _=>Bool) true (fun l=>(rr h l).isSome) rd
def S8 (h:IH) (rd:Option Nat):VO h rd=uc h rd:=by
 cases rd with
 | none=>rfl
 | some l =>
  show(rr h l).isSome=(ja h l).isSome;rw[yu]
def OI (E:Env) (call:cQ) (fn:FuncId) (nt:Nat) (rd:Option Nat) (f:QY) (params:Array Tmp) (assign body:Code):Sm:=fun fr h =>
 iB (VO h rd) (bO (fe f fr) fun fv=>TH h (.loop { state:=.ready,pending:=none,fn,nt,fr,params:=params.toList,assign,body }) fun k h0=>fN (Nat.mul 2 k) fun k2 =>
  bO (call fv [.func (.yield k2) #[] #[]] h0) (Prod.rec fun _ h1=>bO (rr h1 k) fun r=>iB (r.state == .busy) none (bO (yF r.pending) fun e=>Oz h1 k .dead fun h=>some (e,fr,h)))) none
def Tg (E:Env) (call:cQ) (fn:FuncId) (nt:Nat) (rd:Option Nat) (f:QY) (params:Array Tmp) (assign body:Code) (fr:Fr) (h:IH):OI E call fn nt rd f params assign body fr h=nU E call fn nt rd f params.toList assign body fr h:=by
 unfold OI nU;simp only[CA,gR,S8,yu,dP,Ji,iz];cases uc h rd with
 | false=>rfl
 | true =>
  simp only[bP];cases opd fr f with
  | none=>rfl
  | some fv =>
   simp only[bL];show bO (call fv [.func (.yield (2*h.n)) #[] #[]] _) _=_;cases call fv [.func (.yield (2*h.n)) #[] #[]] (h.new (.loop { state:=.ready,pending:=none,fn,nt,fr,params:=params.toList,assign,body })) with
   | none=>rfl
   | some p =>
    obtain⟨v,h1⟩:=p;simp only[bL];cases ja h1 h.n with
    | none=>rfl
    | some r =>
     simp only[bL];cases r.state == .busy with
     | true=>rfl
     | false =>
      simp only[dL];cases yF r.pending<;>rfl
def evF (E:Env) (call:cQ) (fn:FuncId) (nt:Nat) (rd:Option Nat) (n:Nat) (c:Code):Sm:=Code.rec (motive:=fun _=>Sm) Zbo (fun id ops draw=>Zz E call fn nt id ops draw) (fun _ _ a b=>seqC a b) (fun c _ _ a b=>Zgm c a b) (fun id _ b=>P1 id b) (fun b ih=>WH E call fn nt rd n b ih)
 (fun f ps a b _ _=>OI E call fn nt rd f ps a b) Zgh (fun _ b=>b) (fun _=>Zbo) (fun _=>noC) retC (fun _=>noC) c
theorem uv (E:Env) (call:cQ) (fn:FuncId) (nt:Nat) (rd:Option Nat) (n:Nat) : ∀(c:Code),evF E call fn nt rd n c=evC E call fn nt rd n c
 | .skip=>by funext fr h;rw[evC];rfl
 | .label _=>by funext fr h;rw[evC];rfl
 | .region id ops draw=>by funext fr h;show RJ E fn id fr (fun fr=>bO (iB draw (Ko E call nt ops.toList fr h) (wN E call nt ops.toList ops.toList fr h)) fun q=>some (cL.normal,q))=_;rw[evC,W9,iz,Uk,yh];cases(bif draw then kB E call nt ops.toList (kG E fn id fr) h else iX E call nt ops.toList ops.toList (kG E fn id fr) h)<;>rfl
 | .seq a b=>by
  funext fr h;show bO (evF E call fn nt rd n a fr h) (FL (evF E call fn nt rd n b))=_;rw[uv E call fn nt rd n a,uv E call fn nt rd n b,Ik,evC];cases evC E call fn nt rd n a fr h with
  | none=>rfl
  | some p=>rfl
 | .cond c a b=>by
  funext fr h;show bO (fe c fr) _=_;simp only[evC,dP];show(bO (opd fr c) fun v=>match v with|.bool t=>iB t (evF E call fn nt rd n a) (evF E call fn nt rd n b) fr h|_=>none)=_;rw[uv E call fn nt rd n a,uv E call fn nt rd n b];cases opd fr c with
  | none=>rfl
  | some v =>
   cases v with
   | bool t=>cases t<;>rfl
   | _=>rfl
 | .block id b=>by
  funext fr h;show P1 id (evF E call fn nt rd n b) fr h=_;rw[uv E call fn nt rd n b,evC];unfold P1;cases evC E call fn nt rd n b fr h with
  | none=>rfl
  | some p =>
   obtain⟨e,fr,h⟩:=p;cases e with
   | exit i =>
    show iB (Nat.beq i id) _ _=_;rw[iz];simp only[pc]
   | _=>rfl
 | .loop b=>by
  funext fr h;show WH E call fn nt rd n b (evF E call fn nt rd n b) fr h=_;rw[uv E call fn nt rd n b];unfold WH;cases hm:JO b with
  | true=>rfl
  | false =>
   rw[vY,Hj];cases b with
   | seq a rest =>
    cases a with
    | region id ops draw =>
     rw[evC];have hn:vT ops.toList draw=none:=by
      cases ho:vT ops.toList draw with
      | none=>rfl
      | some x=>rw[JO,ho] at hm;cases hm
     rw[hn]
    | _=>rw[evC];intro _ _ _ _ h;cases h
   | _=>rw[evC];intro _ _ _ _ h;cases h
 | .scope b=>by show evF E call fn nt rd n b=_;rw[uv E call fn nt rd n b];funext fr h;rw[evC]
 | .rangeFunc f ps a b=>by funext fr h;rw[evC];exact Tg E call fn nt rd f ps a b fr h
 | .exit i=>by funext fr h;rw[evC];rfl
 | .ret=>by funext fr h;rw[evC];rfl
 | .goto _=>by funext fr h;rw[evC];rfl
 | .refuse _=>by funext fr h;rw[evC];rfl
def Jp (P:QX) (fr:Fr) (h:IH) (r:ResultVar):Option QQ:=match r with
 | .tmp t=>zY fr t
 | .cell a t=>bO (zY fr a) fun v=>Rr P h t v
def zn (P:QX) (fr:Fr) (h:IH) (l:List ResultVar):Option (List QQ):=List.rec (motive:=fun _=>Option (List QQ)) (some []) (fun r _ ih=>bO (Jp P fr h r) fun v=>bO ih fun vs=>some (v :: vs)) l
theorem BH (P:QX) (fr:Fr) (h:IH) : ∀l,zn P fr h l=bY P fr h l
 | []=>rfl
 | r :: l=>by
  show bO (Jp P fr h r) (fun v=>bO (zn P fr h l) fun vs=>some (v :: vs))=_;rw[BH P fr h l,bY,show Jp P fr h r=kC P fr h r from ?_];·cases kC P fr h r<;>cases bY P fr h l<;>rfl
  ·cases r with
   | tmp t=>exact tq fr t
   | cell a t =>
    show bO (zY fr a) _=_;rw[tq];simp only[kC,ML];cases aj fr a<;>rfl
def Xw (l:List QQ):Fr:=List.rec (motive:=fun _=>Nat→Fr) (fun _ => []) (fun v _ ih i=>(i,v) :: ih (Nat.succ i)) l 0
def HG : ∀(l:List QQ) (i:Nat),List.rec (motive:=fun _=>Nat→Fr) (fun _ => []) (fun v _ ih i=>(i,v) :: ih (Nat.succ i)) l i=gh i l
 | [],_=>rfl
 | v :: l,i=>gC ((i,v) :: ·) (HG l (i+1))
theorem Uj (l:List QQ):Xw l=gh 0 l:=HG l 0
def Yn (E:Env) (call:cQ) (n:Nat) (f:FuncId) (fn:Func) (args:List QQ) (h:IH) (c:Code):Option (QQ×IH) :=
 iB (Nat.ble (Et args) fn.ntmps) (bO (evF E call f fn.ntmps none n c (Xw args) h) (Prod.rec fun e q=>cL.rec (motive:=fun _=>Option (QQ×IH))
  (Prod.rec (fun fr h=>bO (zn E.P fr h fn.results.toList) fun vs=>some (single vs,h)) q) (fun _=>none) (Prod.rec (fun fr h=>bO (zn E.P fr h fn.results.toList) fun vs=>some (single vs,h)) q) e)) none
def CK (E:Env) (call:cQ) (n:Nat) (f:FuncId) (args:List QQ) (h:IH):Option (QQ×IH):=Option.rec (motive:=fun _=>Option (QQ×IH))
 (bO E.P.funcs[f]? fun fn=>Option.rec (motive:=fun _=>Option (QQ×IH)) (okV h (qL fn.name args)) (Yn E call n f fn args h) fn.body) (fun g=>g args h) (E.xh f)
def PY (E:Env) (call:cQ) (n:Nat) (f:FuncId) (args:List QQ) (h:IH):CK E call n f args h=sj E call n f args h:=by
 unfold CK sj;cases E.xh f with
 | some g=>rfl
 | none =>
  cases E.P.funcs[f]? with
  | none=>rfl
  | some fn =>
   simp only[bL];cases fn.body with
   | none=>exact nA _ _
   | some c =>
    show Yn E call n f fn args h c=bif Nat.ble args.length fn.ntmps then _ else none;unfold Yn;rw[oc,iz,uv,Uj];simp only[BH];cases Nat.ble args.length fn.ntmps with
    | false=>rfl
    | true =>
     simp only[bP];cases evC E call f fn.ntmps none n c (gh 0 args) h with
     | none=>rfl
     | some p =>
      obtain⟨e,fr,h⟩:=p;cases e with
      | exit i=>rfl
      | normal =>
       show bO (bY E.P fr h fn.results.toList) _=(bY E.P fr h fn.results.toList).map _;cases bY E.P fr h fn.results.toList<;>rfl
      | ret =>
       show bO (bY E.P fr h fn.results.toList) _=(bY E.P fr h fn.results.toList).map _;cases bY E.P fr h fn.results.toList<;>rfl
def JA (nt:Nat) (l:List Nat) (vs:List QQ) (fr:Fr):Option Fr:=List.rec (motive:=fun _=>List QQ→Fr→Option Fr) (fun vs fr=>List.rec (motive:=fun _=>Option Fr) (some fr) (fun _ _ _=>none) vs) (fun t _ ih vs fr=>List.rec (motive:=fun _=>Option Fr) none (fun v vs _=>bO (V3 nt fr (some t) v) (ih vs)) vs) l vs fr
def D7 (nt:Nat) : ∀(l:List Nat) (vs:List QQ) (fr:Fr),JA nt l vs fr=gU nt l vs fr
 | [],[],_=>rfl
 | [],_ :: _,_=>rfl
 | _ :: _,[],_=>rfl
 | t :: l,v :: vs,fr=>by
  show bO (V3 nt fr (some t) v) (JA nt l vs)=_;rw[Jq,gU];cases qT nt fr (some t) v with
  | none=>rfl
  | some fr=>exact D7 nt l vs fr
def IJ (E:Env) (call:cQ) (n:Nat) (l:Nat) (args:List QQ) (h:IH):Option (QQ×IH) :=
 bO (rr h l) fun r=>bO (JA r.nt r.params args r.fr) fun fr=>bO (evF E call r.fn r.nt (some l) n r.assign fr h) (Prod.rec fun e q=>cL.rec (motive:=fun _=>Option (QQ×IH)) (Prod.rec (fun fr h=>bO (rr h l) fun r1=>iB (r1.state == .ready)
  (Oz h l (.loop { r1 with state:=.busy }) fun h=>bO (evF E call r.fn r.nt (some l) n r.body fr h) (Prod.rec fun e q=>Prod.rec (fun _ h=>bO (rr h l) fun r2=>cL.rec (motive:=fun _=>Option (QQ×IH))
   (Oz h l (.loop { r2 with state:=.ready,pending:=none }) fun h=>some (.bool true,h))
   (fun i=>Oz h l (.loop { r2 with state:=.done,pending:=some (.exit i) }) fun h=>some (.bool false,h))
   (Oz h l (.loop { r2 with state:=.done,pending:=some .ret }) fun h=>some (.bool false,h)) e) q)) none) q) (fun _=>none) none e)
def Sv (E:Env) (call:cQ) (n:Nat) (l:Nat) (args:List QQ) (h:IH):IJ E call n l args h=gi E call n l args h:=by
 unfold IJ gi;simp only[yu,D7,uv,Ji,iz];cases ja h l with
 | none=>rfl
 | some r =>
  simp only[bL];cases gU r.nt r.params args r.fr with
  | none=>rfl
  | some fr =>
   simp only[bL];cases evC E call r.fn r.nt (some l) n r.assign fr h with
   | none=>rfl
   | some p =>
    obtain⟨e,fr,h⟩:=p;cases e with
    | exit i=>rfl
    | ret=>rfl
    | normal =>
     simp only[bL];cases ja h l with
     | none=>rfl
     | some r1 =>
      simp only[bL];cases r1.state == .ready with
      | false=>rfl
      | true =>
       simp only[bP];cases evC E call r.fn r.nt (some l) n r.body fr { h with ext:=h.ext.set l (.loop { r1 with state:=.busy }) } with
       | none=>rfl
       | some p =>
        obtain⟨e,fr,h⟩:=p;simp only[bL];cases ja h l with
        | none=>rfl
        | some r2=>cases e<;>rfl
def R8 (E:Env) (n:Nat):cQ:=Nat.rec (motive:=fun _=>cQ) (fun _ _ _=>none) (fun n ih fv vs h=>match fv with
 | .func (.func f) first cap=>CK E ih n f (Cn first.toList (Cn vs cap.toList)) h
 | .func (.yield l) first _=>iB (Nat.beq (Nat.mod l 2) 0) (IJ E ih n (Nat.div l 2) (Cn first.toList vs) h) none
 | _=>none) n
theorem Nr (E:Env) : ∀n,R8 E n=dj E n
 | 0=>rfl
 | n+1=>by
  funext fv vs h;show(match fv with
   | .func (.func f) first cap=>CK E (R8 E n) n f (Cn first.toList (Cn vs cap.toList)) h
   | .func (.yield l) first _=>iB (Nat.beq (Nat.mod l 2) 0) (IJ E (R8 E n) n (Nat.div l 2) (Cn first.toList vs) h) none
   | _=>none)=match fv with
   | .func (.func f) first cap=>sj E (dj E n) n f (first.toList ++ (vs ++ cap.toList)) h
   | .func (.yield l) first _=>bif l % 2 == 0 then gi E (dj E n) n (l / 2) (first.toList ++ vs) h else none
   | _=>none
  rw[Nr E n];simp only[PY,Sv,CM,iz,pc];rfl
def Sg (E:Env) (n:Nat) (f:FuncId) (base:Nat→Option (List QQ)):Bool:=Option.rec (motive:=fun _=>Bool) false (fun p=>match p.1 with|.bool b=>b|_=>false) (R8 E n (.func (.func f) #[] #[]) [] (IH.start base))
def P0 {E:Env} {n:Nat} {f:FuncId} {base:Nat→Option (List QQ)} (h:Sg E n f base=true) : ∃h',dj E n (.func (.func f) #[] #[]) [] (IH.start base)=some (.bool true,h'):=by
 unfold Sg at h;rw[Nr] at h;cases hc:dj E n (.func (.func f) #[] #[]) [] (IH.start base) with
 | none=>rw[hc] at h;cases h
 | some p =>
  obtain⟨v,h'⟩:=p;rw[hc] at h;cases v with
  | bool b =>
   cases b with
   | true=>exact⟨h',rfl⟩
   | false=>cases h
  | _=>cases h
end
noncomputable section
def w64:Nat:=18446744073709551616
def Lg:Nat:=13407807929942597099574024998205846127479365820592393377723561443721764030073546976801874298166903427690031858186486050853753882811946569946433649006084096
def Ua:Nat:=6703903964971298549787012499102923063739682910296196688861780721860882015036773488400937149083451713845015929093243025426876941405973284973216824503042048
def U4 (v:QQ) (ih:Option Nat):Option Nat:=match v with
 | .int .u64 (.ofNat w)=>iB (Nat.ble (Nat.succ w) w64) (bO ih fun r=>some (Nat.add w (Nat.mul w64 r))) none
 | _=>none
def yd (l:List QQ):Option Nat:=List.rec (motive:=fun _=>Option Nat) (some 0) (fun v _ ih=>U4 v ih) l
def Oy (n:Nat):Int:=iB (Nat.ble (Nat.succ n) Ua) (Int.ofNat n) (Int.negSucc (Nat.sub (Nat.sub Lg n) 1))
def Qj (z:Int):Nat:=Int.rec (motive:=fun _=>Nat) (fun n=>n) (fun n=>Nat.sub Lg (Nat.succ n)) z
def vf (k x:Nat) (tl:List QQ):List QQ:=Nat.rec (motive:=fun _=>Nat→List QQ) (fun _=>tl) (fun _ ih x=>fN (Nat.mod x w64) fun w=>.int .u64 (.ofNat w) :: ih (Nat.div x w64)) k x
def UM (num den:Int):QQ:=.agg ⟨vf 8 (Qj num) (vf 8 (Qj den) [])⟩
def inF (z:Int):Bool:=Int.rec (motive:=fun _=>Bool) (fun n=>Nat.ble (Nat.succ n) Ua) (fun n=>Nat.ble (Nat.succ n) Ua) z
def Bx (n d:Int):QQ:=fN (Int.gcd n d) fun g=>iB (inF (Int.ediv n (Int.ofNat g))) (iB (inF (Int.ediv d (Int.ofNat g))) (.tuple #[UM (Int.ediv n (Int.ofNat g)) (Int.ediv d (Int.ofNat g)),.int .i64 (.ofNat 0)]) (.tuple #[UM 0 0,.int .i64 (.ofNat 6)])) (.tuple #[UM 0 0,.int .i64 (.ofNat 6)])
def posF (z:Int):Bool:=Int.rec (motive:=fun _=>Bool) (fun n=>Nat.ble 1 n) (fun _=>false) z
def okF (n d:Int):Bool:=iB (posF d) (Nat.beq (Int.gcd n d) 1) false
def yg (v:QQ) (k:Int→Int→Option QQ):Option QQ:=match v with
 | .agg cs=>iB (Nat.beq (Et cs.toList) 16) (bO (yd cs.toList) fun x=>fN x fun x=>k (Oy (Nat.mod x Lg)) (Oy (Nat.div x Lg))) none
 | _=>none
def Gs (v:QQ) (k:Int→Option QQ):Option QQ:=match v with
 | .agg cs=>iB (Nat.beq (Et cs.toList) 8) (bO (yd cs.toList) fun x=>fN x fun x=>k (Oy x)) none
 | _=>none
def Zak (v:QQ) (k:Int→Option QQ):Option QQ:=match v with
 | .int .i64 z=>k z
 | _=>none
def ZdX (n d:Int):QQ:=Int.rec (motive:=fun _=>QQ) (fun b=>Bx n (.ofNat b)) (fun b=>Bx (Int.neg n) (.ofNat (Nat.succ b))) d
def MW (z:Int):Bool:=Int.rec (motive:=fun _=>Bool) (fun n=>Nat.ble (Nat.succ n) 9223372036854775808) (fun n=>Nat.ble (Nat.succ n) 9223372036854775808) z
def UR (z:Int):Bool:=Int.rec (motive:=fun _=>Bool) (fun n=>Nat.beq n 0) (fun _=>false) z
def ZaM (x y:Int):Int:=Int.rec (motive:=fun _=>Int) (fun n=>Nat.rec (motive:=fun _=>Int) 0 (fun _ _=>1) n) (fun _ => -1) (Int.sub x y)
def of2 (l:List QQ):Option QQ:=match l with
 | [n,d]=>Zak n fun n=>Zak d fun d=>iB (MW n) (iB (MW d) (iB (UR d) none (some (ZdX n d))) none) none
 | _=>none
def WA (l:List QQ):Option QQ:=match l with
 | [n,d]=>Gs n fun n=>Gs d fun d=>iB (UR d) none (some (ZdX n d))
 | _=>none
def PW (l:List QQ):Option QQ:=match l with
 | [a]=>yg a fun n d=>some (.int .i64 (iB (okF n d) 0 20))
 | _=>none
def Zcx (of:Int→Int→Int→Int→Option QQ) (l:List QQ):Option QQ:=match l with
 | [a,b]=>yg a fun n d=>iB (okF n d) (yg b fun m e=>iB (okF m e) (of n d m e) none) none
 | _=>none
def cmp2 (l:List QQ):Option QQ:=Zcx (fun n d m e=>some (.tuple #[.int .i64 (ZaM (Int.mul n e) (Int.mul m d)),.int .i64 0])) l
end
open Go.Proofs.Tryz (prog)
theorem IW:Lg=W8:=by rw[An];decide +kernel
def RO:Ua=H8:=by unfold H8;decide +kernel
def vg : ∀(l:List QQ) (x:Nat),yd l=some x→x<18446744073709551616 ^ l.length∧l=(List.range l.length).map fun i=>K64 (wrd x i)
 | [],x,h=>by cases h;exact⟨aP,rfl⟩
 | v :: l,x,h=>by
  change U4 v (yd l)=some x at h;unfold U4 at h;split at h
  case h_2=>cases h
  rename_i w;obtain⟨h0,h⟩:=dZ h;cases hr:yd l with
  | none=>rw[hr] at h;cases h
  | some r =>
   rw[hr] at h;cases h;obtain⟨a,b⟩:=vg l r hr;have hw:w<18446744073709551616:=wA.1 h0;show w+18446744073709551616*r<18446744073709551616 ^ (l.length+1)∧_;refine⟨?_,?_⟩;·rw[dU];have:(r+1)*18446744073709551616≤18446744073709551616 ^ l.length*18446744073709551616:=cT _ a;omega
   ·show _=(List.range (l.length+1)).map fun i=>K64 (wrd (w+18446744073709551616*r) i);rw[List.range_succ_eq_map,kW,rQ];have e0:wrd (w+18446744073709551616*r) 0=w:=by unfold wrd;rw[pN,C0];omega
    have e1 : ∀i,wrd (w+18446744073709551616*r) (i+1)=wrd r i:=fun i=>by unfold wrd;rw[dU,gu (18446744073709551616 ^ i),←xV,show(w+18446744073709551616*r) / 18446744073709551616=r from by omega]
    rw[e0];congr 1;refine b.trans (xZ fun i _=>?_);show _=K64 (wrd (w+18446744073709551616*r) (i+1));rw[e1]
theorem U0 (x i:Nat) (hi:i<8):wrd (x % 18446744073709551616 ^ 8) i=wrd x i:=by have h:=u7 (n:=x % 18446744073709551616 ^ 8) (x:=x / 18446744073709551616 ^ 8) hi;rw[←h,show x % 18446744073709551616 ^ 8+x / 18446744073709551616 ^ 8*18446744073709551616 ^ 8=x from by rw[gu];exact Nat.mod_add_div _ _]
theorem U1 (x i:Nat):wrd (x / 18446744073709551616 ^ 8) i=wrd x (8+i):=by unfold wrd;rw[xV,←dC]
theorem YS (x:Nat):((List.range 16).map fun i=>K64 (wrd x i))=shC (x % W8) (x / W8):=by
 rw[shC,wdC,wdC,An,show(16:Nat)=8+8 from rfl,List.range_add,kX,rQ];congr 1;·exact xZ fun i hi=>by rw[U0 x i (by simpa using hi)]
 ·exact xZ fun i hi=>by show K64 (wrd x (8+i))=_;rw[U1]
theorem Jg {n:Nat} (hn:n<W8):Oy n=wdI n:=by
 have e1:=RO;have e2:=IW;have e3:=uC;unfold Oy wdI;rw[iz,e1,e2];by_cases h:n<H8;·rw[ah h,wA.2 h];rfl
 ·rw[ad h,oR.2 (fun hb=>h (wA.1 hb))]
  show Int.negSucc (W8 - n - 1)=_;omega
variable {r v:QQ}
def qZ {k:Int→Int→Option QQ} (h:yg v k=some r) : ∃p:Nat×Nat,(p.1<W8∧p.2<W8)∧v=shV p.1 p.2∧k (wdI p.1) (wdI p.2)=some r:=by
 unfold yg at h;split at h
 case h_2=>cases h
 rename_i cs
 obtain⟨h0,h⟩:=dZ h
 have hl:cs.toList.length=16:=by rw[←oc];exact my.mp h0
 cases hx:yd cs.toList with
 | none=>rw[hx] at h;cases h
 | some x =>
  rw[hx,bL,gR] at h;obtain⟨a,b⟩:=vg _ _ hx;rw[hl] at a b;have ex:x<W8*W8:=by rw[An,←dC];exact a
  have hp:0<W8:=by have:=uC;have:=nM;omega
  have q1:x % W8<W8:=gE _ hp;have q2:x / W8<W8:=by rw[oL hp];exact ex
  refine⟨(x % W8,x / W8),⟨q1,q2⟩,?_,?_⟩;·rw[shV,←YS,←b]
  ·have h2:k (Oy (x % Lg)) (Oy (x / Lg))=some r:=h
   rw[IW,Jg q1,Jg q2] at h2;exact h2
variable {k:Int→Option QQ}
def ye (h:Gs v k=some r) : ∃n:Nat,n<W8∧v=wdV n∧k (wdI n)=some r:=by
 unfold Gs at h;split at h
 case h_2=>cases h
 rename_i cs
 obtain⟨h0,h⟩:=dZ h
 have hl:cs.toList.length=8:=by rw[←oc];exact my.mp h0
 cases hx:yd cs.toList with
 | none=>rw[hx] at h;cases h
 | some x =>
  rw[hx,bL,gR] at h;obtain⟨a,b⟩:=vg _ _ hx;rw[hl] at a b;have q1:x<W8:=by rw[An];exact a
  refine⟨x,q1,?_,?_⟩;·rw[wdV,wdC,←b]
  ·rw[Jg q1] at h
   exact h
def wW (h:Zak v k=some r) : ∃z:Int,v=KI z∧k z=some r:=by
 unfold Zak at h;split at h
 case h_2=>cases h
 exact⟨_,rfl,h⟩
theorem wI (tl:List QQ) : ∀(k x:Nat),vf k x tl=((List.range k).map fun i=>K64 (wrd x i)) ++ tl
 | 0,_=>rfl
 | k+1,x=>by
  show fN (x % 18446744073709551616) (fun w=>QQ.int .u64 (.ofNat w) :: vf k (x / 18446744073709551616) tl)=_;rw[gR,wI tl k,List.range_succ_eq_map,kW,rQ,List.cons_append];have e0:wrd x 0=x % 18446744073709551616:=by unfold wrd;rw[pN,C0]
  rw[e0];congr 2;refine xZ fun i _=>?_;show _=K64 (wrd x (i+1));unfold wrd;rw[dU,gu (18446744073709551616 ^ i),xV]
variable {z:Int}
theorem Dt (hz:InW z):Qj z=bJ z:=by
 have e2:=IW;unfold bJ;cases z with
 | ofNat n=>rfl
 | negSucc n =>
  show Lg - (n+1)=_;rw[e2,ad byOmega];rfl
theorem Sp {a b:Int} (ha:InW a) (hb:InW b):UM a b=shV (bJ a) (bJ b):=by unfold UM shV shC wdC;rw[wI,wI,Dt ha,Dt hb,x8]
theorem Pn (z:Int):inF z=decide (InW z):=by
 have e1:=RO;have:=nM;rw[oQ,aJ];unfold InW;cases z with
 | ofNat n =>
  show Nat.ble (n+1) Ua=true ↔ -(H8:Int)≤(n:Int)∧(n:Int)<H8;rw[wA,e1];omega
 | negSucc n =>
  show Nat.ble (n+1) Ua=true↔_;rw[wA,e1];omega
variable {n d:Int}
theorem DC (hd:0<d):Bx n d=mU (Rat.divInt n d):=by
 obtain⟨a,b⟩:=rq (n:=n) hd;have z0:InW 0:=⟨by have:=nM;omega,by have:=nM;omega⟩;have zz:UM 0 0=shV 0 0:=by rw[Sp z0 z0];rfl
 unfold Bx mU;rw[gR,iz,iz,Pn,Pn];rw[show Int.ediv n (Int.ofNat (Int.gcd n d))=(Rat.divInt n d).num from a,show Int.ediv d (Int.ofNat (Int.gcd n d))=(Rat.divInt n d).den from b,zz];unfold QW;by_cases c1:InW (Rat.divInt n d).num
 ·by_cases c2:InW ((Rat.divInt n d).den:Int)
  ·rw[ah ⟨c1,c2⟩,bf c1,bf c2,Sp c1 c2];rfl
  ·rw[ad (fun h=>c2 h.2),bf c1,aY c2];rfl
 ·rw[ad (fun h=>c1 h.1),aY c1];rfl
theorem Q4 (z:Int):posF z=decide (0<z):=by
 rw[oQ,aJ];cases z with
 | ofNat n =>
  show Nat.ble 1 n=true↔0<(n:Int);rw[wA];omega
 | negSucc n=>exact⟨fun h=>Bool.noConfusion h,fun h=>absurd h byOmega⟩
theorem Dl (z:Int):UR z=decide (z=0):=by
 rw[oQ,aJ];cases z with
 | ofNat n =>
  show Nat.beq n 0=true↔(n:Int)=0;rw[my];omega
 | negSucc n=>exact⟨fun h=>Bool.noConfusion h,fun h=>absurd h byOmega⟩
def lF (h:MW z=true):gV z:=by
 unfold gV;cases z with
 | ofNat n =>
  have:=wA.1 (show Nat.ble (Nat.succ n) 9223372036854775808=true from h);show _≤(n:Int)∧(n:Int)<_;omega
 | negSucc n =>
  have:=wA.1 (show Nat.ble (Nat.succ n) 9223372036854775808=true from h);omega
def JD {n d:Nat} (h:okF (wdI n) (wdI d)=true):okS n d:=by
 unfold okF at h;rw[iz,Q4] at h;by_cases c:0<wdI d;·rw[bf c] at h;exact⟨c,my.mp h⟩
 ·rw[aY c] at h;cases h
theorem okF_eq (n d:Nat):okF (wdI n) (wdI d)=(open Classical in decide (okS n d)):=by rw[oQ,aJ];refine⟨JD,fun h=>?_⟩;unfold okF;rw[iz,Q4,bf h.1];exact my.mpr h.2
theorem Kq (hd:d≠0):ZdX n d=mU (Rat.divInt n d):=by
 cases d with
 | ofNat b =>
  show Bx n (b:Int)=mU (Rat.divInt n (b:Int));have:(b:Int)≠0:=hd;exact DC byOmega
 | negSucc b =>
  show Bx (-n) ((b+1:Nat):Int)=_;rw[DC byOmega];congr 1
theorem ZaL (x y:Int):ZaM x y=if x<y then -1 else if x=y then 0 else 1:=by
 unfold ZaM;have e:Int.sub x y=x - y:=rfl;rw[e];cases h:x - y with
 | ofNat n =>
  have h:x - y=(n:Int):=h;cases n with
  | zero=>rw[ad byOmega,ah byOmega];rfl
  | succ m=>rw[ad byOmega,ad byOmega]
 | negSucc n=>rw[ah byOmega]
def Gz (hn:gV n) (hd:gV d) (d0:d≠0):mU (Rat.divInt n d)=.tuple #[mG (Rat.divInt n d),KI 0]:=by unfold mU;rw[ah (uh hn hd d0)]
abbrev Val (f:QQ) (g:List QQ→Option QQ):Prop:=∀args v,args.all plain=true→g args=some v→qj v=true∧WV Proofs.Tryz.prog f args (IH.start fun _=>none) fun r _=>r=v
theorem GY (n d:Nat):plain (shV n d)=true:=by show(shC n d).toArray.all ct=true;rw[shC,wdC,wdC,List.all_toArray,List.all_append,List.all_map,List.all_map];simp[ct]
def rh (q:Rat):qj (mU q)=true:=by obtain⟨n,d,e,h⟩:=pZ q;rw[h];show [shV n d,KI e].all plain=true;rw[tM,GY];rfl
def Zcq:Val (.func (.func 88) #[] #[]) of2:=by
 intro args v _ h;unfold of2 at h;split at h
 case h_2=>cases h
 obtain⟨n,e0,k⟩:=wW h;clear h;subst e0;have h:=k;clear k;obtain⟨d,e0,k⟩:=wW h;clear h;subst e0;have h:=k;clear k;obtain⟨h1,h⟩:=dZ h;obtain⟨h2,h⟩:=dZ h;obtain⟨h3,h⟩:=qC h;cases h;have d0:d≠0:=by rw[Dl] at h3;exact of_decide_eq_false h3
 have e:=Gz (lF h1) (lF h2) d0;rw[Kq d0];exact⟨rh _,(Zp n d (lF h1) (lF h2) d0).mono fun r h' k=>k.2.trans e.symm⟩
def Vf:Val (.func (.func 42) #[] #[]) of2:=by
 intro args v _ h;unfold of2 at h;split at h
 case h_2=>cases h
 obtain⟨n,e0,k⟩:=wW h;clear h;subst e0;have h:=k;clear k;obtain⟨d,e0,k⟩:=wW h;clear h;subst e0;have h:=k;clear k;obtain⟨h1,h⟩:=dZ h;obtain⟨h2,h⟩:=dZ h;obtain⟨h3,h⟩:=qC h;cases h;have d0:d≠0:=by rw[Dl] at h3;exact of_decide_eq_false h3
 have e:=Gz (lF h1) (lF h2) d0;rw[Kq d0];exact⟨rh _,(ue n d (lF h1) (lF h2) d0).mono fun r h' k=>k.2.trans e.symm⟩
def Vg:Val (.func (.func 189) #[] #[]) WA:=by
 intro args v _ h;unfold WA at h;split at h
 case h_2=>cases h
 obtain⟨n,hn,e0,k⟩:=ye h;clear h;subst e0;have h:=k;clear k;obtain⟨d,hd,e0,k⟩:=ye h;clear h;subst e0;have h:=k;clear k;obtain⟨h3,h⟩:=qC h;cases h;have d0:wdI d≠0:=by rw[Dl] at h3;exact of_decide_eq_false h3
 rw[Kq d0];exact⟨rh _,(GK n d hn hd (fun e=>d0 ((pg hd).2 e))).mono fun r h' k=>k.2⟩
def SD:Val (.func (.func 128) #[] #[]) PW:=by
 intro args v _ h
 unfold PW at h;split at h
 case h_2=>cases h
 obtain⟨p,hp,e0,k⟩:=qZ h;clear h;subst e0;have h:=k;clear k;cases h;rw[okF_eq,iz];refine⟨rfl,(tZ p.1 p.2 hp.1 hp.2).mono fun r h' k=>k.2.trans ?_⟩;by_cases c:okS p.1 p.2;·rw[ah c,bf c];rfl
 ·rw[ad c,aY c];rfl
def SH {of:Int→Int→Int→Int→Option QQ} {l:List QQ} (h:Zcx of l=some v) : ∃p q:Nat×Nat,(p.1<W8∧p.2<W8)∧(q.1<W8∧q.2<W8)∧okS p.1 p.2∧okS q.1 q.2∧l = [shV p.1 p.2,shV q.1 q.2]∧of (wdI p.1) (wdI p.2) (wdI q.1) (wdI q.2)=some v:=by
 unfold Zcx at h;split at h
 case h_2=>cases h
 obtain⟨p,hp,e0,k⟩:=qZ h;clear h;subst e0;have h:=k;clear k;obtain⟨ok1,h⟩:=dZ h;obtain⟨q,hq,e0,k⟩:=qZ h;clear h;subst e0;have h:=k;clear k;obtain⟨ok2,h⟩:=dZ h;exact⟨p,q,hp,hq,JD ok1,JD ok2,rfl,h⟩
def YY:Val (.func (.func 26) #[] #[]) cmp2:=by
 intro args v _ h;obtain⟨p,q,hp,hq,ok1,ok2,e0,k⟩:=SH h;clear h;subst e0;have h:=k;clear k;cases h;refine⟨rfl,(VC hp hq ok1 ok2).mono fun r h' k=>k.2.trans ?_⟩;have e:ZaM (Int.mul (wdI p.1) (wdI q.2)) (Int.mul (wdI q.1) (wdI p.2))=if rOf p<rOf q then -1 else if rOf p=rOf q then 0 else 1:=by rw[ZaL,←Ku,(fi ok1).1,(fi ok1).2,(fi ok2).1,(fi ok2).2];rfl
 rw[e]
theorem VX (x y:Rat):x - y=Rat.divInt (x.num*y.den - y.num*x.den) ((x.den:Int)*y.den):=by rw[show x - y=x + -y from by grind,zw,Rat.neg_num,Rat.neg_den];congr 1;grind
def KK (h:IH) (v:Value) (l:List Int):Prop:=cA h 1 v l.length (l.map KI)∧l.length≤1000000000 ∧ ∀x∈l,gV x
def KK.ae {h h':IH} {v:Value} {l:List Int} (s:KK h v l) (e:aX h h'):KK h' v l:=⟨s.1.ae e,s.2⟩
def outB (most n:Int):Bool:=decide (n<0) || decide (most<n)
def Zdi (s l:List Int):Int:=if s.length<1∨60<s.length∨s.any (outB 30)=true∨l.length<1∨6<l.length∨l.any (outB 8)=true then 340 else 0
def ZeZ (m s:Nat):Nat:=if m=11 then s else if m=12 then 2*s*(s+1) else if m=13 then s*(s+1) else if m=14 then 2*s+1 else s+1
def Ze0 (m s:Nat):Nat:=if m=12 then 2*s+1 else if m=14 then 2 else 1
def ZeY (m s:Nat):Rat:=Rat.divInt (ZeZ m s) (Ze0 m s)
end Go.Id
namespace Go.Id
open Go
open Go renaming Operand→QY,Program→QX,TypeId→QZ,Value→QQ
open Nat renaming reduceAdd→zA,reduceEqDiff→zE,reduceLeDiff→zL
open Nat (reduceMul)
set_option maxHeartbeats 16000000
section
variable {P:Program}
end
open Go.Proofs.Tryz (prog)
def cmpQ (x y:Rat):Int:=if x<y then -1 else if x=y then 0 else 1

end Go.Id
namespace Go.Id
open Go
open Go renaming Operand→QY,Program→QX,TypeId→QZ,Value→QQ
open Nat renaming reduceAdd→zA,reduceEqDiff→zE,reduceLeDiff→zL
open Nat (reduceMul)
set_option maxHeartbeats 16000000
def J8 (p:Nat→Bool):Nat→Nat
 | 0=>0
 | n+1=>if J8 p n<n then J8 p n else if p n=true then n else n+1
open Go.Proofs.Tryz (prog)
def Zbl (k:Int) (m:Nat) (t:Rat) (s:Nat):Bool:=decide (k≤cmpQ (ZeY m s) t)
noncomputable def atT (m:Nat) (x:Rat) (n:Int):Option Rat:=open Classical in
 if QW ((n:Rat) / x) then (if m=13 then (if QW ((n:Rat) / x*((n:Rat) / x)) then some ((n:Rat) / x*((n:Rat) / x)) else none) else some ((n:Rat) / x)) else none
def Zgz (m:Nat) (t:Rat):Nat:=J8 (Zbl 0 m t) 1001
def Yv (m:Nat) (t:Rat):Nat:=J8 (Zbl 1 m t) 1001
noncomputable def Zb9 (m:Nat) (x:Rat) (n:Int):Int×Int×Int:=match atT m x n with
 | none=>(6,0,0)
 | some t=>if n=0 then (0,0,0) else if 1000<Yv m t then (2,0,0) else (0,(Zgz m t:Nat),(Yv m t:Nat))
noncomputable def atA (m:Nat) (x:Rat) (l:List Int):List Value:=l.map fun n=>KI (Zb9 m x n).2.1
noncomputable def atB (m:Nat) (x:Rat) (l:List Int):List Value:=l.map fun n=>KI (Zb9 m x n).2.2

abbrev Reg:=Int×Int×Int
def regC (r:Reg):List QQ:=[KI r.1,KI r.2.1,KI r.2.2]
def regL (l:List Reg):List QQ:=l.flatMap regC
def ZbI (won low:List Int) (n:Nat):Prop:=∀i,i<n→0≤low.getD i 0∧low.getD i 0≤won.getD i 0
instance (won low:List Int) (n:Nat):Decidable (ZbI won low n):=inferInstanceAs (Decidable (∀i,i<n→_))
def ZcX (AR won low:List Int) (n:Nat):List Reg:=(List.range n).map fun i=>(AR.getD i 0,won.getD i 0,low.getD i 0)
structure OX (h H1 hh:IH) (fr:Fr) (vp vw vl:QQ) (m:Int) (AR won low:List Int) (b:Nat) (i:Nat) (out:QQ):Prop where
 e:Ext h hh
 k:aX H1 hh
 sp:cA H1 1 vp AR.length (AR.map KI)
 sw:cA H1 1 vw won.length (won.map KI)
 sl:cA H1 1 vl low.length (low.map KI)
 bn:h.n<b∧b<hh.n
 g8:hh.ext.get h.n=some (.cells [KI 0,.slice none 0 0] 0 none)
 g11:hh.ext.get b=some (.cells [KI m,out] 0 none)
 acc:Acc hh h.n 3 out i (regL (ZcX AR won low i))
 lw:ZbI won low i
 f1:aj fr 1=some vw
 f3:aj fr 3=some vl
 f8:aj fr 8=some (ptr (2*h.n) 0)
 f11:aj fr 11=some (ptr (2*b) 0)
 f12:aj fr 12=some (KI (won.take i).sum)
 f52:aj fr 52=some vp
 f53:aj fr 53=some (KI AR.length)
 f54:aj fr 54=some (KI i)
end Go.Id
namespace Go.Id
open Go
open Go renaming Operand→QY,Program→QX,TypeId→QZ,Value→QQ
open Nat renaming reduceAdd→zA,reduceEqDiff→zE,reduceLeDiff→zL
open Nat (reduceMul)
set_option maxHeartbeats 16000000
variable {P:Program}{t:TypeId}{h:IH}
def Nw {sz bytes:Nat} (hT:mR P t=some (sz,bytes)) {b o n:Nat} {cs:List QQ} (sv:rJ h sz (.slice (some ⟨b,o,none⟩) n (2*n+1)) n cs) {x:QQ} {m:Nat} {new:List QQ} (sx:rJ h sz x m new) (hm:0<m) (hn:0<n) (hc:new.all aM=true) (hsz:(n+m)*(bytes+1)≤1099511627776) :append P h t (.slice (some ⟨b,o,none⟩) n (2*n+1)) x=some (.slice (some ⟨2*h.n,0,none⟩) (n+m) (2*(n+m)),h.new (.cells (cs ++ new) sz none)):=by
 unfold mR at hT;split at hT
 case h_2=>cases hT
 rename_i e hu;split at hT
 case h_2=>cases hT
 rename_i zs h1 h2 h3;simp only[aK] at hT;split at hT
 case isTrue=>cases hT
 rename_i J3;cases hT;have qE:(sz == 0 || (!(Nat.ble bytes 65536) || !(zs.length == sz)))=false:=by simpa using J3
 have first : ∀{y:QQ} {k:Nat} {l:List QQ},0<k→rJ h sz y k l→cN h sz k y=some l∧lenOf y=some k:=by
  intro y k l hk s;obtain⟨hz,hl,⟨rfl,rfl⟩|⟨b2,o2,k2,rfl,rfl|⟨row,a1,a2,a3⟩⟩⟩:=s;·omega
  ·omega
  have hms : ¬k*sz=0:=by have:0<k*sz:=kf hk hz;omega
  refine⟨?_,rfl⟩
  simp only[cN,aK,bI,ar,bS,bD,ad hms]
  rw[zq a1,ah a3,a2]
 have Bb:(m == 0)=false:=bq;obtain⟨hfx,hlx⟩:=first hm sx
 obtain⟨hfv,_⟩:=first hn sv
 have yB:Nat.ble ((n+m)*(bytes+1)) bh=true:=by rw[bI];exact hsz
 have qS:Nat.ble (n+m) ((2*n+1) / 2)=false:=by rw[oR];intro hh;rw[bI] at hh;omega
 have qR:((2*n+1) % 2 == 1)=true:=aa;simp only[Id.append,hu,h1,h2,h3,hlx,Bb,qE,hfx,hc,yB,qS,qR,hfv,bP,dL,lW]
def gw {fr:Fr} {c:Call} {h':IH} {v r:QQ} (hc:c.callee=.builtin .len) (ha:jV fr c.args.toList=some [v]) (ht:c.argTypes[0]?=some t) (h1:qB P h t v=some r) (h2:qB P h' t v=some r):jH P fr (.call c) h h'=true :=
 Bz (v:=r) (x:=h) (y:=h') (by simp[iop,hc,ha,builtin,ht,h1]) (by simp[iop,hc,ha,builtin,ht,h2])

open Go.Proofs.Tryz (prog)

end Go.Id
namespace Go.Id
open Go
open Go renaming Operand→QY,Program→QX,TypeId→QZ,Value→QQ
open Nat renaming reduceAdd→zA,reduceEqDiff→zE,reduceLeDiff→zL
open Nat (reduceMul)
set_option maxHeartbeats 16000000

open Go.Proofs.Tryz (prog)
abbrev B8 (n:Nat):Value:=.int .u8 (n:Int)
abbrev B16 (n:Nat):Value:=.int .u16 (n:Int)
structure Dr6 (h:IH) (x:Value) (ps ls:List Nat) (u s:Nat):Prop where
 ex : ∃vp vl,x=.agg #[vp,B8 u,vl,B16 s]∧cA h 1 vp ps.length (ps.map B16)∧cA h 1 vl ls.length (ls.map B8)
 bp : ∀p∈ps,p<65536
 bl : ∀p∈ls,p<256
 bu:u<256
 bs:s<65536
 lp:ps.length<9223372036854775808
 ll:ls.length<9223372036854775808
def maxL:List Int→Int
 | []=>0
 | a :: l=>l.foldl max a
def wiL (l:List Nat):List QQ:=l.flatMap wdC
theorem YU (l:List Nat):(wiL l).length=l.length*8:=by
 induction l with
 | nil=>rfl
 | cons a l ih=>rw[wiL,AD,du,aH,←wiL,ih,gX];omega
variable {p i:Nat}{l:List Nat}
def Zco (h:l[i]?=some p):((wiL l).drop (i*8)).take 8=wdC p:=by
 induction l generalizing i with
 | nil=>simp at h
 | cons a l ih =>
  rw[wiL,AD,←wiL];cases i with
  | zero =>
   simp at h;subst h;rw[iC,cp,rP (by rw[aH];omega),dr (by rw[aH];omega)]
  | succ i =>
   simp at h;rw[List.drop_append,aH,uX (by rw[aH];omega),mz,show(i+1)*8 - 8=i*8 by omega];exact ih h
theorem KZ (l:List Nat) (p:Nat):wiL (l ++ [p])=wiL l ++ wdC p:=by simp[wiL]
def mS (h:IH) (v:QQ) (l:List Nat):Prop:=cA h 8 v l.length (wiL l)∧l.length≤1000000000 ∧ ∀n∈l,n<W8
variable {h' h:IH}{v:QQ}
def mS.ae (s:mS h v l) (e:aX h h'):mS h' v l:=⟨s.1.ae e,s.2⟩
def mS.ld (s:mS h v l) (e:aX h h') (hi:l[i]?=some p):load Proofs.Tryz.prog h' 30 (a9 v (i*8))=some (wdV p):=by have hil:=(bZ.1 hi).1;rw[s.1.Ev e (by rw[YU];omega) byOmega ZaX SM,Zco hi];rfl
def Dv (n:Nat):List.take 8 (List.drop 0 (wdC n))=wdC n:=by rw[cp,dr (by rw[aH];omega)]
def tk2a (a b:QQ):List.take 2 (List.drop 0 [a,b]) = [a,b]:=rfl
def Zel (l:List Nat):Prop:=∀n∈l,1≤wdI n
variable {x:Int}
def CE {h h':IH} {v:Value} {l:List Int} (s:KK h v l) (e:aX h h') {i:Nat} (hi:l[i]?=some x):load Proofs.Tryz.prog h' 3 (a9 v i)=some (KI x):=by have hil:=(bZ.1 hi).1;rw[s.1.ld e (by simpa using hil) ag3,cm,hi];rfl
def Zdg {H:IH} {k:Nat} (g:H.ext.get k=some (.cells [KI x] 0 none)):load Proofs.Tryz.prog H 3 (ptr (2*k) 0)=some (KI x):=by have r:=aw g;simp -dsimp (disch:=omega) only[wpS,ld3,r]
def La {n:Nat} (hn:n<W8):Im (wdI n):=by
 have hw:W8=2 ^ 512:=mQ;have k1:(wdI n).natAbs≤2 ^ 512:=by rw[←hw];unfold wdI;have:=jE;split<;>omega
 exact bB (k:=512) k1 byOmega
def tgt (most level s:Int) (w:Nat):Int:=wdI w*((2 ^ ((most - s)*level).toNat:Nat):Int)
def mapZ (z:Nat→Nat→Int) (l:List Nat) (i:Nat):List Nat:=(List.range i).map fun j=>bJ (z j (l.getD j 0))
def fitZ (z:Nat→Nat→Int) (l:List Nat) (i:Nat):Prop:=∀j,j<i→InW (z j (l.getD j 0))
def ZcA (s:List Int) (level:Int) (i p:Nat):Int:=tgt (maxL s) level (s.getD i 0) p
open Classical in
noncomputable def Zbd (ws:List Nat) (s:List Int) (level:Int):Int:=if Zdi s [level]≠0 then 340 else if ws.length≠s.length ∨ ¬Zel ws then 2 else if fitZ (ZcA s level) ws ws.length then 0 else 6



def wG (h:IH) (v:QQ) (l:List Nat):Prop:=cA h 1 v l.length (l.map B8)∧l.length<9223372036854775808 ∧ ∀x∈l,x<256
variable {h' h:IH}{l:List Nat}{v:QQ}
def wG.ae (s:wG h v l) (e:aX h h'):wG h' v l:=⟨s.1.ae e,s.2⟩
def wG.ld (s:wG h v l) (e:aX h h') {i:Nat} {x:Nat} (hi:l[i]?=some x):load prog h' 5 (a9 v i)=some (B8 x):=by have hil:=(bZ.1 hi).1;rw[s.1.ld e (by simpa using hil) ag5,cm,hi];rfl
theorem U6 (m:Nat) : ∀l:List Nat,wiL (l.take m)=(wiL l).take (m*8):=by
 induction m with
 | zero=>intro l;simp[wiL]
 | succ m ih =>
  intro l;cases l with
  | nil=>simp[wiL]
  | cons a l =>
   have e : ∀(x:Nat) (y:List Nat),wiL (x :: y)=wdC x ++ wiL y:=fun x y=>by rw[wiL,AD,←wiL]
   rw[List.take_succ_cons,e,e,ih,List.take_append,aH,dr (l:=wdC a) (by rw[aH];omega),show(m+1)*8 - 8=m*8 by omega]
variable {m:Nat}
def wG.first (s:wG h v l) (kp:aX h h') (hm:m≤l.length) : ∃w,dY prog h' 22 v none (some (KN m)) none=some w∧wG h w (l.take m):=by have lb:=s.2.1;obtain⟨w,hw,hs⟩:=s.1.slice kp (P:=prog) (t:=22) u22 sz5 (l:=0) (m:=m) (dT _) hm (lo:=none) (hi:=some (KN m)) rfl (fun c hc=>kQ (k:=.i64) byOmega);refine⟨w,hw,?_,by rw[iT];omega,fun x hx=>s.2.2 x (AB hx)⟩;rw[iT,lU hm,tJ];simpa using hs
def P9 (h:IH) (v:QQ) (l:List Nat):Prop:=cA h 8 v l.length (wiL l)∧l.length<9223372036854775808 ∧ ∀n∈l,n<W8
def P9.ae (s:P9 h v l) (e:aX h h'):P9 h' v l:=⟨s.1.ae e,s.2⟩
def P9.first (s:P9 h v l) (kp:aX h h') (hm:m≤l.length) (hb:m≤1000) : ∃w,dY prog h' 42 v none (some (KN m)) none=some w∧mS h w (l.take m):=by have lb:=s.2.1;obtain⟨w,hw,hs⟩:=s.1.slice kp (P:=prog) (t:=42) u42 SM (l:=0) (m:=m) (dT _) hm (lo:=none) (hi:=some (KN m)) rfl (fun c hc=>kQ (k:=.i64) byOmega);refine⟨w,hw,?_,by rw[iT];omega,fun x hx=>s.2.2 x (AB hx)⟩;rw[iT,lU hm];rw[U6];simpa using hs
def oB (P:Program) (t:TypeId) (k:IntKind) (ox oy:Operand) (a n:Nat) (hn:0<n):binop P .rem t ox oy (.int k (a:Int)) (.int k (n:Int))=some (.int k ((a % n:Nat):Int)):=by rw[tA P t ox oy byOmega,IE byOmega,Int.natCast_emod]
def Kn {sz:Nat} (hv:wG h v l) (n:Nat) (hn:n≤100) :WV prog (.func (.func 10) #[] #[]) [.agg #[B8 sz,v],KN n] h fun r h'=>Ext h h' ∧ ∃out,mS h' r out∧out.length=n ∧ ∀p∈out,1≤wdI p∧wdI p≤9:=by
 have cv:=hv.1.cells;have co:=hv.1.cok;have g0:(h.new (.cells [B8 sz,v] 0 none)).ext.get h.n=some (.cells [B8 sz,v] 0 none):=by simp (disch:=omega) only[aq]
 have E0:Ext h (h.new (.cells [B8 sz,v] 0 none)):=(Ext.refl h).new _;refine enter (nt:=32) (rs:=[.tmp 4]) Proofs.Tryz.func10 rfl rfl rfl aa ?_;simp -dsimp (disch:=omega) only[wpS,zE,zA];obtain⟨Hb,hHb⟩:=bm (h.new (.cells [B8 sz,v] 0 none));have nb:Hb.n=h.n+1:=by rw[hHb];rfl
 rw[←hHb] at g0 E0 ⊢;clear hHb;refine loop (fun m fr hh => ∃(i:Nat) (out:QQ) (l':List Nat),i+m=n∧l'.length=i∧(∀p∈l',p<W8∧1≤wdI p∧wdI p≤9)∧Ext Hb hh∧Acc hh Hb.n 8 out l'.length (wiL l')∧aj fr 1=some (KN n)∧aj fr 2=some (ptr (2*h.n) 0)∧aj fr 5=some out∧aj fr 6=some (KN i)) n
  ⟨0,.slice none 0 0,[],byOmega,rfl,(fun p hp=>by cases hp),Ext.refl _,Acc.nil _ _ byOmega,aa⟩ ?_
 rintro m fr hh ⟨i,out,l',him,hil,hlt,hE,hA,f1,f2,f5,f6⟩;have hg:=hE.kept byOmega g0;have hnn:=hE.n;have lv:=hv.2.1;have hEh:=E0.trans hE;simp -dsimp (disch:=omega) only[wpS,zE,f1,f6];refine az ?_ ?_<;>intro hc<;>simp only[aJ,aV] at hc
 ·by_cases c:i<l.length
  ·obtain⟨x,hx⟩:=fJ (l:=l) (i:=i) c;have xb:=hv.2.2 x (bN hx);have hr : ∀ox oy,binop prog .rem 5 ox oy (B8 x) (.int .u8 9)=some (.int .u8 ((x % 9:Nat):Int)):=fun ox oy=>oB _ _ .u8 ox oy x 9 byOmega;simp -dsimp (disch:=omega) only[wpS,wpT,zE,Kg,Zab,HV,f2,f5,f6,aw hg,hv.1.len Zo,hv.1.idx es22 c,hv.ld hEh.ae hx,hr];refine call (hP (1+((x % 9:Nat):Int)) ⟨byOmega,byOmega⟩) ?_;rintro _ h1 ⟨X1,rfl⟩;have wi:=mW (n:=1+((x % 9:Nat):Int)) ⟨byOmega,byOmega⟩;have wz:bJ (1+((x % 9:Nat):Int))<W8∧1≤wdI (bJ (1+((x % 9:Nat):Int)))∧wdI (bJ (1+((x % 9:Nat):Int)))≤9:=⟨gZ wi,by rw[dQ wi];omega,by rw[dQ wi];omega⟩;have m1:=X1.n;obtain⟨fF,h8,hap,hA8,hG8,hE8⟩:=(hA.ext X1).uR (P:=prog) (t:=42) ap42 (m:=1) (new:=wdC (bJ (1+((x % 9:Nat):Int)))) byOmega (by rw[aH]) (dH _) byOmega byOmega (hE.trans X1) byOmega;have yC:append prog (h1.new (.cells (wdC (bJ (1+((x % 9:Nat):Int)))) 8 none)) 42 out (.slice (some ⟨2*h1.n,0,none⟩) 1 3)=some (fF,h8):=hap;simp -dsimp (disch:=omega) only[wpS,wpT,zE,zL,zA,bs42,Sl,f6,eG,aH,iF,yC];refine⟨m - 1,byOmega,i+1,fF,l' ++ [bJ (1+((x % 9:Nat):Int))],byOmega,by simp[hil],?_,hE8,?_,by simp[f1,f2]⟩
   ·intro q hq;rcases eE.1 hq with hq|hq
    ·exact hlt q hq
    ·rw[iD.1 hq];exact wz
   ·rw[KZ,du];exact hA8
  ·simp -dsimp (disch:=omega) only[wpS,wpT,zE,Kg,Zab,f2,f5,f6,aw hg,hv.1.len Zo];refine call (hP 1 ⟨byOmega,byOmega⟩) ?_;rintro _ h1 ⟨X1,rfl⟩;have wi:=mW (n:=1) ⟨byOmega,byOmega⟩;have wz:bJ 1<W8∧1≤wdI (bJ 1)∧wdI (bJ 1)≤9:=⟨gZ wi,by rw[dQ wi];omega,by rw[dQ wi];omega⟩;have m1:=X1.n;obtain⟨fF,h8,hap,hA8,hG8,hE8⟩:=(hA.ext X1).uR (P:=prog) (t:=42) ap42 (m:=1) (new:=wdC (bJ 1)) byOmega (by rw[aH]) (dH _) byOmega byOmega (hE.trans X1) byOmega;have yC:append prog (h1.new (.cells (wdC (bJ 1)) 8 none)) 42 out (.slice (some ⟨2*h1.n,0,none⟩) 1 3)=some (fF,h8):=hap;simp -dsimp (disch:=omega) only[wpS,wpT,zE,zL,zA,bs42,Sl,f6,eG,aH,iF,yC];refine⟨m - 1,byOmega,i+1,fF,l' ++ [bJ 1],byOmega,by simp[hil],?_,hE8,?_,by simp[f1,f2]⟩
   ·intro q hq;rcases eE.1 hq with hq|hq
    ·exact hlt q hq
    ·rw[iD.1 hq];exact wz
   ·rw[KZ,du];exact hA8
 ·simp -dsimp (disch:=omega) only[wpS,wpT,zE,f5];exact⟨hEh,l',⟨hA.sl,byOmega,fun p hp=>(hlt p hp).1⟩,byOmega,fun p hp=>(hlt p hp).2⟩
end Go.Id
namespace Go.Proofs.YtnnmjocmapilaaaGreat
open Go.ChangeShapes Go.WideShapes Go.ChangeAt Go.RowKit Go.Id
def Qr:Tryz.prog.underlying 42=some (.slice 30):=ab
def ZeD:Tryz.prog.underlying 22=some (.slice 5):=ab
def Dz:Tryz.prog.underlying 24=some (.struct { toList:=[{ name := "Size",type:=5,offset:=0,embedded:=false,tag := "",pkgPath := "",byteOffset:=0 },{ name := "N",type:=22,offset:=1,embedded:=false,tag := "",pkgPath := "",byteOffset:=8 }] }):=ab
theorem Zd7:Tryz.prog.cellsOf 5=1:=ab
theorem Zgo:Tryz.prog.cellsOf 22=1:=ab
theorem Yh:Tryz.prog.cellsOf 24=2:=ab
def Lb (n:Nat) : ∀y∈wdC n,ct y=true:=by intro y hy;simp only[wdC,ju] at hy;obtain⟨i,_,rfl⟩:=hy;rfl
def KX : ∀(n:Nat) (cs:List Value),cs.length=n*8→(∀i,i<n → ∃p:Nat,p<W8∧(cs.drop (i*8)).take 8=wdC p) → ∃l:List Nat,l.length=n∧wiL l=cs ∧ ∀p∈l,p<W8
 | 0,cs,hl,_=>⟨[],rfl,(fC.1 byOmega).symm,fun p hp=>by cases hp⟩
 | n+1,cs,hl,h=>by
  obtain⟨p,hp,e⟩:=h 0 byOmega;obtain⟨l,h1,h2,h3⟩:=KX n (cs.drop 8) (by rw[oN];omega) fun i hi=>by obtain⟨q,hq,e⟩:=h (i+1) byOmega;refine⟨q,hq,?_⟩;rw[Df,←e];congr 2;omega
  refine⟨p :: l,by simp[h1],?_,?_⟩;·rw[iC,cp] at e;show wdC p ++ wiL l=cs;rw[←e,h2,List.take_append_drop]
  ·intro q hq;rcases dD.1 hq with rfl|hq
   ·exact hp
   ·exact h3 q hq
def Ms {f:Nat→Value} {m:Nat} : ∀(n:Nat) (cs:List Value),cs.length=n*1→(∀i,i<n → ∃p,p<m∧(cs.drop (i*1)).take 1 = [f p]) → ∃ps:List Nat,ps.length=n∧cs=ps.map f ∧ ∀p∈ps,p<m
 | 0,cs,h,_=>⟨[],rfl,by simpa using h,fun p hp=>by cases hp⟩
 | n+1,[],h,_=>by simp at h
 | n+1,c :: cs,h,k=>by
  obtain⟨p,h1,h2⟩:=k 0 byOmega;obtain⟨ps,h3,h4,h5⟩:=Ms n cs (by simp at h ⊢;omega) fun i hi=>by obtain⟨q,h6,h7⟩:=k (i+1) byOmega;exact⟨q,h6,by simpa using h7⟩
  refine⟨p :: ps,by simp[h3],?_,fun q hq=>?_⟩;·simp at h2;rw[kW,h2,h4]
  ·rcases dD.1 hq with rfl|hq
   ·exact h1
   ·exact h5 q hq
section
variable {H:Type} {enc:TypeId×Value→H} {W:World} {held:Bool}
variable {x:DataW H×List MemPlace}{fuel:Nat}{cs0:List Value}
def Oh (G:Nat→Option (List Value)) (h:DataW.trod enc Tryz.prog W 0 (fun _=>true) held fuel 42 cs0=some x) :
  ∃v l,cs0 = [v]∧ef v=true∧P9 (IH.start (By G W)) (trV v) l:=by
 obtain⟨v,n,cs,e,ht,hn,hs,hR⟩:=tV (R:=fun cs => ∃p:Nat,p<W8∧cs.map trV=wdC p) Qr PZ byOmega (fun n cs x hx=>by
  obtain⟨a,h1,rfl⟩:=IT hx;exact⟨⟨a,h1,Wy (Lb a)⟩,fun y hy=>SY (Lb a y hy)⟩) G h
 obtain⟨l,h1,h2,h3⟩:=KX n (cs.map trV) hs.2.1 fun i hi=>by obtain⟨p,hp,e⟩:=hR i hi;exact⟨p,hp,by rw[←List.map_drop,←tJ];exact e⟩
 refine⟨v,l,e,ht,?_,?_,h3⟩;·rw[h1,h2];exact hs
 ·rw[h1];exact kh hn aP
def Oi (G:Nat→Option (List Value)) (h:DataW.trod enc Tryz.prog W 0 (fun _=>true) held fuel 22 cs0=some x) :∃v l,cs0 = [v]∧ef v=true∧wG (IH.start (By G W)) (trV v) l:=by
 obtain⟨v,n,cs,e1,ht,hn,hs,hR⟩:=tV (R:=fun cs => ∃p:Nat,p<256∧cs.map trV = [B8 p]) ZeD Zd7 byOmega (fun n cs x hx=>by
  obtain⟨i,rfl,hi⟩:=pW (m:=255) rfl rfl Za hx;exact⟨⟨i,byOmega,rfl⟩,fun y hy=>by rw[iD.1 hy];rfl⟩) G h
 obtain⟨ps,h1,h2,h3⟩:=Ms (f:=B8) (m:=256) n (cs.map trV) hs.2.1 fun i hi=>by obtain⟨p,hp,e⟩:=hR i hi;exact⟨p,hp,by rw[←List.map_drop,←tJ];exact e⟩
 subst h1;exact⟨v,ps,e1,ht,h2▸hs,kh hn aP,h3⟩
def Z9 {α:Type} : ∀{l:List α},l.length=2 → ∃a b,l = [a,b]
 | [a,b],_=>⟨a,b,rfl⟩
def Hp (G:Nat→Option (List Value)) {cs:List Value} (h:DataW.trod enc Tryz.prog W 0 (fun _=>true) held fuel 24 cs=some x) :∃k y l,cs = [B8 k,y]∧k<256∧ef y=true∧wG (IH.start (By G W)) (trV y) l:=by obtain⟨xs,m,_,_,hl,hn,hf⟩:=DataW.trod_struct Dz h;rw[Yh] at hl;have hn2:xs.length=2:=hn;obtain⟨x0,hx0⟩:=fJ (l:=xs) (i:=0) byOmega;have f0:DataW.trod enc Tryz.prog W 0 (fun _=>true) held m 5 ((cs.drop 0).take (Tryz.prog.cellsOf 5))=some x0:=(hf 0 { name := "Size",type:=5,offset:=0,embedded:=false,tag := "",pkgPath := "",byteOffset:=0 } rfl).trans hx0;obtain⟨x1,hx1⟩:=fJ (l:=xs) (i:=1) byOmega;have f1:DataW.trod enc Tryz.prog W 0 (fun _=>true) held m 22 ((cs.drop 1).take (Tryz.prog.cellsOf 22))=some x1:=(hf 1 { name := "N",type:=22,offset:=1,embedded:=false,tag := "",pkgPath := "",byteOffset:=8 } rfl).trans hx1;rw[Zd7] at f0;rw[Zgo] at f1;obtain⟨a,b,rfl⟩:=Z9 hl;obtain⟨k,e0,hk⟩:=pW (m:=255) rfl rfl Za f0;obtain⟨v,l,e1,t1,s1⟩:=Oi G f1;cases e0;cases e1;exact⟨k,_,l,rfl,byOmega,t1,s1⟩
end
end Go.Proofs.YtnnmjocmapilaaaGreat
namespace Go.Id
open Go
open Go renaming Operand→QY,Program→QX,TypeId→QZ,Value→QQ
open Nat renaming reduceAdd→zA,reduceEqDiff→zE,reduceLeDiff→zL
open Nat (reduceMul)
set_option maxHeartbeats 16000000
open Go.Proofs.Tryz (prog)


end Go.Id
namespace Go.Id

open Go
open Go renaming Operand→QY,Program→QX,TypeId→QZ,Value→QQ
open Nat renaming reduceAdd→zA,reduceEqDiff→zE,reduceLeDiff→zL
open Nat (reduceMul)
set_option maxHeartbeats 16000000
open Go.Proofs.Tryz (prog)
def xI (P:Program) (t:TypeId) (ox oy:Operand) (a b:Nat) (ha:a<18446744073709551616) (hb:b<18446744073709551616):binop P .xor t ox oy (.int .u64 a) (.int .u64 b)=some (.int .u64 ((a ^^^ b:Nat):Int)):=by
 have e:(BitVec.ofInt 64 (a:Int) ^^^ BitVec.ofInt 64 (b:Int)).toNat=a ^^^ b:=by simp[eP ha,eP hb]
 rw[xJ,show(BitVec.ofInt IntKind.u64.bits (a:Int) ^^^ BitVec.ofInt IntKind.u64.bits (b:Int)).toNat=a ^^^ b from e,gH (Nat.xor_lt_two_pow (n:=64) ha hb)]
def tk1 (a:Value):List.take 1 (List.drop 0 [a]) = [a]:=rfl


theorem Qf {x:Nat} (hx:x<9223372036854775808):x ^^^ 9223372036854775808=x+9223372036854775808:=by
 have h1:x<2 ^ 63:=hx;have h2:=Nat.two_pow_add_eq_or_of_lt h1 1;rw[dG] at h2;rw[show(9223372036854775808:Nat)=2 ^ 63 from rfl,xW,h2];apply Nat.eq_of_testBit_eq;intro i;rw[Nat.testBit_xor,Nat.testBit_or,Nat.testBit_two_pow];by_cases hi:63=i;·subst hi;rw[Nat.testBit_lt_two_pow h1];decide
 ·simp[hi]
variable {a:Nat}
theorem IK (ha:a<H8):wrd a 7<9223372036854775808:=(Zck (by have:=jE;omega)).2 ha
def Qm (ha:a<H8):IH.aI (wdC a) 7 [K64 (wrd a 7+9223372036854775808)]=wdC (a+H8):=by
 have ht:=IK ha;have hw:a<18446744073709551616 ^ (7+1):=by rw[←An];have:=jE;omega
 have e:H8=9223372036854775808*18446744073709551616 ^ 7:=by unfold H8;rfl
 apply jT;intro j;have hl:(IH.aI (wdC a) 7 [K64 (wrd a 7+9223372036854775808)]).length=8:=by simp[IH.aI,aH]
 by_cases h8:j<8
 ·rw[fZ _ _ h8,e];by_cases h7:j=7
  ·subst h7;rw[Dp hw byOmega];simp[IH.aI,aH]
  ·rw[u7 byOmega];have hj:j<7:=byOmega;simp only[IH.aI];rw[gF (by rw[iT,aH];omega),iU,ah hj,fZ _ _ h8]
 ·rw[cI byOmega,cI (by rw[aH];omega)]
def je (h:IH) (v:Value) (ll:List (List (Nat×Nat))):Prop:=∃vs:List Value,cA h 1 v ll.length vs∧ll.length<1152921504606846976 ∧ ∀(i:Nat) (x:List (Nat×Nat)),ll[i]?=some x → ∃w,vs[i]?=some w∧iS h w x
variable {h' h:IH}{ll:List (List (Nat×Nat))}{v:Value}
def je.ae (s:je h v ll) (e:aX h h'):je h' v ll:=by obtain⟨vs,a,b,c⟩:=s;refine⟨vs,a.ae e,b,fun i x hx=>?_⟩;obtain⟨w,h1,h2⟩:=c i x hx;exact⟨w,h1,h2.ae e⟩
theorem je.at (s:je h v ll) (e:aX h h') {i:Nat} {x:List (Nat×Nat)} (hx:ll[i]?=some x) :∃w,load Proofs.Tryz.prog h' 61 (a9 v i)=some w∧iS h' w x ∧ ∀k:IntKind,indexAddr Proofs.Tryz.prog 38 v (.int k (i:Int))=some (a9 v i):=by obtain⟨vs,a,b,c⟩:=s;obtain⟨w,h1,h2⟩:=c i x hx;have hi:=(bZ.1 hx).1;refine⟨w,?_,h2.ae e,fun k=>by rw[a.idx ZaE hi,dG]⟩;rw[a.ld e (by rw[a.2.1];omega) UN];exact h1
def je.co (s:je h v ll):v.cells = #[v]∧aM v=true ∧ ∀h',qB Proofs.Tryz.prog h' 38 v=some (.int .i64 ll.length):=by obtain⟨vs,a,_⟩:=s;exact⟨a.cells,a.cok,fun h'=>a.len ZcS h'⟩
def iS.co {l:List (Nat×Nat)} (s:iS h v l):v.cells = #[v]∧aM v=true:=⟨s.1.cells,s.1.cok⟩
end Go.Id
