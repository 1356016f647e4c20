/-
  The ideal machine, second part: regions, code, calls. The ideal machine and the model's machine: how values and memories of the one stand for those of the other.
-/
import Derived.Test.YtnanhedgenokpaaGreatTemperDetailedAa
import Derived.Below
set_option linter.unusedVariables false
set_option linter.unusedSimpArgs false
set_option linter.defProp false
set_option linter.deprecated false
namespace Go.Id
open Go
structure Env where
 P:Program
 lv:FuncId→Nat→Option (List Nat)
 intr:FuncId→Option (List Value→IH→Option (Value×IH))
abbrev CallV:=Value→List Value→IH→Option (Value×IH)
def wantedI (ops:List Oper) (o:Oper) (fr:Fr):Option Bool :=
 match o.guard with
 | none=>some true
 | some (j,want)=>match (ops[j]?).bind (·.dst) with
  | some d=>match fget fr d with
   | some (.bool b)=>some (b == want)
   | some (.tuple _)=>some false
   | _=>none
  | none=>none
def runOp (E:Env) (call:CallV) (fr:Fr) (o:Op) (h:IH):Option (Value×IH) :=
 match o with
 | .call c=>match c.callee with
  | .value f=>match opd fr f,opds fr c.args.toList with
   | some fv,some vs=>call fv vs h
   | _,_=>none
  | _=>iop E.P fr (.call c) h
 | o=>iop E.P fr o h
def stepOp (E:Env) (call:CallV) (nt:Nat) (ops:List Oper) (o:Oper) (fr:Fr) (h:IH):Option (Fr×IH) :=
 match wantedI ops o fr with
 | some true=>match runOp E call fr o.op h with
  | some (v,h)=>(fput nt fr o.dst v).map (·,h)
  | none=>none
 | some false=>(fput nt fr o.dst undef).map (·,h)
 | none=>none
def runOps (E:Env) (call:CallV) (nt:Nat) (ops:List Oper):List Oper→Fr→IH→Option (Fr×IH)
 | [],fr,h=>some (fr,h)
 | o :: l,fr,h=>match stepOp E call nt ops o fr h with
  | some (fr,h)=>runOps E call nt ops l fr h
  | none=>none
inductive OpKind where
 | pure|load|alloc|chain
 deriving DecidableEq
def kindOf:Op→OpKind
 | .move _|.assign _|.pick _ _ _|.build _ _|.nilCheck _|.binOp _ _ _ _ _|.unOp _ _ _|.convert _ _ _|.sliceToArrayPointer _ _|.makeFunc _ _ _|.fieldAddr _ _ _|.field _ _ _
 | .indexAddr _ _ _|.index _ _ _|.extract _ _=>.pure
 | .load _ _|.lookup _ _ _ _|.slice _ _ _ _ _=>.load
 | .alloc _|.box _ _|.buildSlice _ _ _|.makeMap _ _|.makeSlice _ _ _=>.alloc
 | .call c=>match c.callee with
  | .builtin .len=>.load
  | .builtin .max=>.pure
  | .builtin .min=>.pure
  | _=>.chain
 | _=>.chain
def maskOf (acc:List Nat) (o:Oper):Nat:=o.after.toList.foldr (fun e s=>bif Region.binds .any e then s ||| 2 ^ e.on ||| acc.getD e.on 0 else s) 0
def masks:List Nat→List Oper→List Nat
 | acc,[]=>acc
 | acc,o :: l=>masks (acc ++ [maskOf acc o]) l
def tmpsOf (l:List Operand):List Nat:=l.filterMap fun x=>match x with|.tmp t=>some t|_=>none
def reads (ops:List Oper) (o:Oper):List Nat :=
 tmpsOf o.op.operands.toList ++ (match o.guard with|some (g,_)=>((ops[g]?).bind (·.dst)).toList|none => [])
def clash (ops:List Oper) (x y:Oper):Bool :=
 (match x.dst with|some d=>y.dst == some d || (reads ops y).contains d|none=>false) || (match y.dst with|some d=>(reads ops x).contains d|none=>false)
def orderOK (ops:List Oper):Bool :=
 let ms:=masks [] ops
 (List.range ops.length).all fun j=>match ops[j]? with
  | none=>true
  | some y =>
   y.after.toList.all (fun e => !Region.binds .any e || Nat.blt e.on j) &&
   (match y.guard with|none=>true|some (g,_)=>(ms.getD j 0).testBit g) &&
   (List.range j).all fun i=>match ops[i]? with
    | none=>true
    | some x=>(ms.getD j 0).testBit i || !(clash ops x y || (kindOf x.op == .chain && kindOf y.op == .chain))
def plan (ops:List Oper):List (Nat×List Nat) :=
 let ms:=masks [] ops
 let chain:=(List.range ops.length).filter fun k=>match ops[k]? with|some o=>kindOf o.op == .chain|none=>false
 (List.range ops.length).filterMap fun i=>match ops[i]? with
  | none=>none
  | some o=>bif kindOf o.op == .load then
    some (i,(chain ++ [ops.length]).filter fun p =>
     chain.all fun k=>bif Nat.blt k p then !(ms.getD k 0).testBit i else !(ms.getD i 0).testBit k)
   else none
def trace (E:Env) (call:CallV) (nt:Nat) (ops:List Oper):List Oper→Fr→IH→Option (List (Fr×IH))
 | [],fr,h=>some [(fr,h)]
 | o :: l,fr,h=>match stepOp E call nt ops o fr h with
  | some (fr',h')=>(trace E call nt ops l fr' h').map ((fr,h) :: ·)
  | none=>none
def eqS:Value→Value→Bool
 | .bool a,.bool b=>a == b
 | .int j a,.int k b=>j == k && a == b
 | .string a,.string b=>a.data.toList == b.data.toList
 | .pointer a,.pointer b=>a == b
 | .slice a n c,.slice b m d=>a == b && n == m && c == d
 | .map a,.map b=>a == b
 | .nilFunc,.nilFunc=>true
 | .nilIface,.nilIface=>true
 | _,_=>false
def eqL:List Value→List Value→Bool
 | [],[]=>true
 | a :: l,b :: m=>eqS a b && eqL l m
 | _,_=>false
def eqA:Value→Value→Bool
 | .agg a,.agg b=>eqL a.toList b.toList
 | .func f a c,.func g b d=>f == g && eqL a.toList b.toList && eqL c.toList d.toList
 | a,b=>eqS a b
def eqT:List Value→List Value→Bool
 | [],[]=>true
 | a :: l,b :: m=>eqA a b && eqT l m
 | _,_=>false
def eqV0:Value→Value→Bool
 | .tuple a,.tuple b=>eqT a.toList b.toList
 | a,b=>eqA a b
noncomputable def eqV (a b:Value):Bool:=eqV0 a b || @decide (a=b) (Classical.propDecidable _)
theorem eqV_refl (a:Value):eqV a a=true:=by simp[eqV]
noncomputable section
def steadyAt (P:Program) (fr:Fr) (o:Op) (h h':IH):Bool :=
 match iop P fr o h,iop P fr o h' with
 | some (v,_),some (v',_)=>eqV v v'
 | _,_=>false
def steady (P:Program) (ops:List Oper) (tr:List (Fr×IH)) (pl:List (Nat×List Nat)):Bool :=
 pl.all fun e=>match ops[e.1]?,tr[e.1]? with
  | some o,some (fr,h)=>match wantedI ops o fr with
   | some true=>e.2.all fun p=>match tr[p]? with
    | some (_,h')=>steadyAt P fr o.op h h'
    | none=>false
   | _=>true
  | _,_=>false
def runDrawn (E:Env) (call:CallV) (nt:Nat) (ops:List Oper) (fr:Fr) (h:IH):Option (Fr×IH) :=
 match trace E call nt ops ops fr h with
 | none=>none
 | some tr=>bif orderOK ops && steady E.P ops tr (plan ops) then tr[ops.length]? else none
inductive IExit where
 | normal
 | exit (id:Nat)
 | ret
abbrev Out:=Option (IExit×Fr×IH)
def loopN (b:Fr→IH→Out):Nat→Fr→IH→Out
 | 0,_,_=>none
 | n+1,fr,h=>match b fr h with
  | some (.normal,fr,h)=>loopN b n fr h
  | some (.exit i,fr,h)=>some (.exit i,fr,h)
  | some (.ret,fr,h)=>some (.ret,fr,h)
  | none=>none
def headFr (E:Env) (fn:FuncId) (id:Nat) (fr:Fr):Fr :=
 match E.lv fn id with
 | some l=>keepOnly fr l
 | none=>fr
def loopOf (h:IH) (k:Nat):Option ILoop :=
 match h.ext.get k with
 | some (.loop r)=>some r
 | _=>none
def exitOf:Option Code→Option IExit
 | none=>some .normal
 | some (.exit i)=>some (.exit i)
 | some .ret=>some .ret
 | _=>none
def roundOK (h:IH):Option Nat→Bool
 | none=>true
 | some l=>(loopOf h l).isSome
def rangeFn (E:Env) (call:CallV) (fn:FuncId) (nt:Nat) (rd:Option Nat) (f:Operand) (params:List Nat) (assign body:Code) (fr:Fr) (h:IH):Out :=
 match (bif roundOK h rd then opd fr f else none) with
 | none=>none
 | some fv =>
  match call fv [.func (.yield (2*h.n)) #[] #[]] (h.new (.loop { state:=.ready,pending:=none,fn,nt,fr,params,assign,body })) with
  | none=>none
  | some (_,h1)=>match loopOf h1 h.n with
   | none=>none
   | some r=>bif r.state == .busy then none else match exitOf r.pending with
    | none=>none
    | some e=>some (e,fr,{ h1 with ext:=h1.ext.set h.n .dead })
def nextOf (ops:List Oper) (draw:Bool):Option (Nat×Nat×Nat) :=
 match draw,ops with
 | false,[⟨some nx,.next (.tmp it) false,_,_,_,none⟩,⟨some more,.extract (.tmp x) 0,_,_,_,none⟩]=>bif x == nx then some (it,nx,more) else none
 | _,_=>none
def putNext (nt nx more:Nat) (v:Value) (b:Bool) (fr:Fr):Option Fr :=
 match fput nt fr (some nx) v with
 | some fr=>fput nt fr (some more) (.bool b)
 | none=>none
def iterOK (fr:Fr) (h:IH) (it kb k:Nat) (es:List (Value×Value)) (seen:List Nat):Prop :=
 fget fr it=some (ptr (2*kb) 0)∧h.ext.get kb=some (.iter k es.length seen es.length)∧mapOf h k=some es
open Classical in
def mapRounds (rest:Fr→IH→Out) (hd:Fr→Fr) (nt it nx more kb k:Nat) (es:List (Value×Value)):List Nat→List Nat→Fr→IH→Out
 | [],seen,fr,h=>if iterOK (hd fr) h it kb k es seen then
   match putNext nt nx more (.tuple #[.bool false]) false (hd fr) with
   | none=>none
   | some fr=>match rest fr h with
    | some (.normal,_,_)=>none
    | o=>o
  else none
 | i :: l,seen,fr,h=>if iterOK (hd fr) h it kb k es seen then
   match es[i]? with
   | none=>none
   | some e=>match putNext nt nx more (.tuple #[.bool true,e.1,e.2]) true (hd fr) with
    | none=>none
    | some fr=>match rest fr { h with ext:=h.ext.set kb (.iter k es.length (seen ++ [i]) es.length) } with
     | some (.normal,fr,h)=>mapRounds rest hd nt it nx more kb k es l (seen ++ [i]) fr h
     | o=>o
  else none
open Classical in
def common (nt n:Nat) (R:List Nat→Out):Out :=
 if c : ∃o:IExit×IH,∀l:List Nat,l.Perm (List.range n) → ∃fr,R l=some (o.1,fr,o.2) then
  some (c.choose.1,(List.range nt).filterMap (fun t=>if d : ∃v,∀l:List Nat,l.Perm (List.range n) → ∀e fr h,R l=some (e,fr,h)→fget fr t=some v then some (t,d.choose) else none),c.choose.2)
 else none
def killIter (kb:Nat):Out→Out
 | none=>none
 | some p=>match p.2.2.ext.get kb with
  | some (.iter _ _ _ _)=>some (p.1,p.2.1,{ p.2.2 with ext:=p.2.2.ext.set kb .dead })
  | _=>none
open Classical in
def mapLoop (rest:Fr→IH→Out) (hd:Fr→Fr) (nt it nx more:Nat) (fr:Fr) (h:IH):Out :=
 match fget (hd fr) it with
 | some (.pointer (some ⟨b,0,none⟩))=>bif b % 2 == 1 then none else match h.ext.get (b / 2) with
  | some (.iter k _ _ _)=>match mapOf h k with
   | some es=>common nt es.length fun l=>if l.Perm (List.range es.length) then killIter (b / 2) (mapRounds rest hd nt it nx more (b / 2) k es l [] fr h) else none
   | none=>none
  | _=>none
 | _=>none
def evC (E:Env) (call:CallV) (fn:FuncId) (nt:Nat) (rd:Option Nat) (n:Nat):Code→Fr→IH→Out
 | .skip,fr,h=>some (.normal,fr,h)
 | .label _,fr,h=>some (.normal,fr,h)
 | .region id ops draw,fr,h =>
  match (bif draw then runDrawn E call nt ops.toList (headFr E fn id fr) h else runOps E call nt ops.toList ops.toList (headFr E fn id fr) h) with
  | some (fr,h)=>some (.normal,fr,h)
  | none=>none
 | .seq a b,fr,h=>match evC E call fn nt rd n a fr h with
  | some (.normal,fr,h)=>evC E call fn nt rd n b fr h
  | some (.exit i,fr,h)=>some (.exit i,fr,h)
  | some (.ret,fr,h)=>some (.ret,fr,h)
  | none=>none
 | .cond c a b,fr,h=>match opd fr c with
  | some (.bool true)=>evC E call fn nt rd n a fr h
  | some (.bool false)=>evC E call fn nt rd n b fr h
  | _=>none
 | .block id b,fr,h=>match evC E call fn nt rd n b fr h with
  | some (.exit i,fr,h)=>bif i == id then some (.normal,fr,h) else some (.exit i,fr,h)
  | some (.normal,fr,h)=>some (.normal,fr,h)
  | some (.ret,fr,h)=>some (.ret,fr,h)
  | none=>none
 | .loop b,fr,h=>match b with
  | .seq (.region id ops draw) rest=>match nextOf ops.toList draw with
   | some (it,nx,more)=>mapLoop (evC E call fn nt rd n rest) (headFr E fn id) nt it nx more fr h
   | none=>loopN (evC E call fn nt rd n (.seq (.region id ops draw) rest)) n fr h
  | b=>loopN (evC E call fn nt rd n b) n fr h
 | .scope b,fr,h=>evC E call fn nt rd n b fr h
 | .rangeFunc f ps a b,fr,h=>rangeFn E call fn nt rd f ps.toList a b fr h
 | .exit i,fr,h=>some (.exit i,fr,h)
 | .ret,fr,h=>some (.ret,fr,h)
 | .goto _,_,_=>none
 | .refuse _,_,_=>none
def resultOf (P:Program) (fr:Fr) (h:IH):ResultVar→Option Value
 | .tmp t=>fget fr t
 | .cell a t=>match fget fr a with
  | some v=>load P h t v
  | none=>none
def resultsOf (P:Program) (fr:Fr) (h:IH):List ResultVar→Option (List Value)
 | []=>some []
 | r :: l=>match resultOf P fr h r,resultsOf P fr h l with
  | some v,some vs=>some (v :: vs)
  | _,_=>none
def single:List Value→Value
 | [v]=>v
 | vs=>.tuple vs.toArray
def carryI (name:String) (args:List Value):Option Value :=
 match args with
 | [.int .u64 (.ofNat x),.int .u64 (.ofNat y),.int .u64 (.ofNat c)]=>bif Nat.ble c 1 then
   (bif name == "math/bits.Add64" then some (.tuple #[.int .u64 ((x+y+c) % 18446744073709551616:Nat),.int .u64 ((x+y+c) / 18446744073709551616:Nat)])
    else bif name == "math/bits.Sub64" then some (.tuple #[.int .u64 ((x+18446744073709551616 - y - c) % 18446744073709551616:Nat),.int .u64 ((bif Nat.blt x (y+c) then 1 else 0:Nat))]) else none)
  else none
 | _=>none
def callFn (E:Env) (call:CallV) (n:Nat) (f:FuncId) (args:List Value) (h:IH):Option (Value×IH) :=
 match E.intr f with
 | some g=>g args h
 | none=>match E.P.funcs[f]? with
  | none=>none
  | some fn=>match fn.body with
   | none=>(carryI fn.name args).map (·,h)
   | some c=>bif Nat.ble args.length fn.ntmps then
     match evC E call f fn.ntmps none n c (enterFr 0 args) h with
     | some (.exit _,_,_)=>none
     | some (_,fr,h)=>(resultsOf E.P fr h fn.results.toList).map fun vs=>(single vs,h)
     | none=>none
    else none
def putParams (nt:Nat):List Nat→List Value→Fr→Option Fr
 | [],[],fr=>some fr
 | t :: l,v :: vs,fr=>match fput nt fr (some t) v with
  | some fr=>putParams nt l vs fr
  | none=>none
 | _,_,_=>none
def callYield (E:Env) (call:CallV) (n:Nat) (l:Nat) (args:List Value) (h:IH):Option (Value×IH) :=
 match loopOf h l with
 | none=>none
 | some r=>match putParams r.nt r.params args r.fr with
  | none=>none
  | some fr=>match evC E call r.fn r.nt (some l) n r.assign fr h with
   | some (.normal,fr,h)=>match loopOf h l with
    | none=>none
    | some r1=>bif r1.state == .ready then
      match evC E call r.fn r.nt (some l) n r.body fr { h with ext:=h.ext.set l (.loop { r1 with state:=.busy }) } with
      | none=>none
      | some (e,_,h)=>match loopOf h l with
       | none=>none
       | some r2=>match e with
        | .normal=>some (.bool true,{ h with ext:=h.ext.set l (.loop { r2 with state:=.ready,pending:=none }) })
        | .exit i=>some (.bool false,{ h with ext:=h.ext.set l (.loop { r2 with state:=.done,pending:=some (.exit i) }) })
        | .ret=>some (.bool false,{ h with ext:=h.ext.set l (.loop { r2 with state:=.done,pending:=some .ret }) })
     else none
   | _=>none
def callV (E:Env):Nat→CallV
 | 0,_,_,_=>none
 | n+1,fv,vs,h=>match fv with
  | .func (.func f) first cap=>callFn E (callV E n) n f (first.toList ++ (vs ++ cap.toList)) h
  | .func (.yield l) first _=>bif l % 2 == 0 then callYield E (callV E n) n (l / 2) (first.toList ++ vs) h else none
  | _=>none
end
end Go.Id

namespace Go.Id
open Go Go.RowKit
structure Mp where
 at_:Nat→Option (Nat×Nat)
 ez:Nat→Nat×Nat
instance:CoeFun Mp fun _=>Nat→Option (Nat×Nat):=⟨Mp.at_⟩
def Mp.le (m m':Mp):Prop:=∀b x,m b=some x→m' b=some x∧m'.ez b=m.ez b
theorem Mp.le_refl (m:Mp):m.le m:=fun _ _ h=>⟨h,rfl⟩
theorem Mp.le_trans {a b c:Mp} (h:a.le b) (k:b.le c):a.le c:=fun x y e=>let ⟨p,q⟩:=h x y e;let ⟨r,s⟩:=k x y p;⟨r,s.trans q⟩
def FnRel (m:Mp):Fn→Fn→Prop
 | .yield l,.yield r => ∃s,m l=some (r,s)
 | .func f,.func g=>f=g
 | _,_=>False
inductive VRel (m:Mp):Value→Value→Prop where
 | scal {v:Value} (h:scal v=true):VRel m v v
 | ptr {b o r s:Nat} (h:m b=some (r,s)):VRel m (.pointer (some ⟨b,o,none⟩)) (.pointer (some ⟨r,s+o,none⟩))
 | slice {b o r s len k cap:Nat} (h:m b=some (r,s)) (hk0:0<k) (hl:len≤k / 2) (hk:k / 2≤cap) (hx:k % 2=1→cap=k / 2) (hz:k % 2=0→s+o+cap*(m.ez b).1≤(m.ez b).2) :
   VRel m (.slice (some ⟨b,o,none⟩) len k) (.slice (some ⟨r,s+o,none⟩) len cap)
 | lost {b o cap:Nat} {a:Addr}:VRel m (.slice (some ⟨b,o,none⟩) 0 0) (.slice (some a) 0 cap)
 | tok {b n cap:Nat} {a:Option Addr} (hc:n≤cap) (h:(n=0∧(a=none→cap=0)) ∨ ∃r s,m b=some (r,s)∧a=some ⟨r,s,none⟩):VRel m (.slice (some ⟨b,0,some 0⟩) n 0) (.slice a n cap)
 | map {b r s:Nat} (h:m b=some (r,s)):VRel m (.map (some b)) (.map (some r))
 | func {fn fn':Fn} {xs xs' ys ys':Array Value} (hf:FnRel m fn fn') (hx:xs.size=xs'.size) (hy:ys.size=ys'.size)
   (h1 : ∀(i:Nat) (v v':Value),xs[i]?=some v→xs'[i]?=some v'→VRel m v v') (h2 : ∀(i:Nat) (v v':Value),ys[i]?=some v→ys'[i]?=some v'→VRel m v v'):VRel m (.func fn xs ys) (.func fn' xs' ys')
 | agg {cs cs':Array Value} (hs:cs.size=cs'.size) (h : ∀(i:Nat) (v v':Value),cs[i]?=some v→cs'[i]?=some v'→VRel m v v'):VRel m (.agg cs) (.agg cs')
 | tuple {cs cs':Array Value} (hs:cs.size=cs'.size) (h : ∀(i:Nat) (v v':Value),cs[i]?=some v→cs'[i]?=some v'→VRel m v v'):VRel m (.tuple cs) (.tuple cs')
theorem FnRel.mono {m m':Mp} (hm:m.le m') {f g:Fn} (h:FnRel m f g):FnRel m' f g:=by
 cases f<;>cases g<;>simp_all [FnRel]
 obtain⟨s,h⟩:=h;exact⟨s,(hm _ _ h).1⟩
theorem VRel.mono {m m':Mp} (hm:m.le m') {v v':Value} (h:VRel m v v'):VRel m' v v':=by
 induction h with
 | scal h=>exact .scal h
 | ptr h=>exact .ptr (hm _ _ h).1
 | slice h a b c d e=>exact .slice (hm _ _ h).1 a b c d (by rw[(hm _ _ h).2];exact e)
 | lost=>exact .lost
 | tok hc h=>exact .tok hc (h.imp id fun⟨r,s,h1,h2⟩=>⟨r,s,(hm _ _ h1).1,h2⟩)
 | map h=>exact .map (hm _ _ h).1
 | func hf hx hy _ _ i1 i2=>exact .func (hf.mono hm) hx hy i1 i2
 | agg hs _ ih=>exact .agg hs ih
 | tuple hs _ ih=>exact .tuple hs ih
theorem VRel.scal_eq {m:Mp} {v v':Value} (h:VRel m v v') (hv:Id.scal v=true):v'=v:=by
 cases h<;>simp_all [Id.scal]
theorem VRel.undef (m:Mp):VRel m undef undef:=.tuple rfl (by simp)
def LRel (m:Mp) (l l':List Value):Prop:=l.length=l'.length ∧ ∀(i:Nat) (v v':Value),l[i]?=some v→l'[i]?=some v'→VRel m v v'
theorem LRel.nil (m:Mp):LRel m [] []:=⟨rfl,by simp⟩
theorem LRel.cons {m:Mp} {v v':Value} {l l':List Value} (h:VRel m v v') (t:LRel m l l'):LRel m (v :: l) (v' :: l'):=by
 refine⟨by simp[t.1],fun i x x' hx hx'=>?_⟩
 cases i with
 | zero=>simp at hx hx';subst hx;subst hx';exact h
 | succ i=>simp at hx hx';exact t.2 i x x' hx hx'
theorem LRel.append {m:Mp} {a a' b b':List Value} (h:LRel m a a') (k:LRel m b b'):LRel m (a ++ b) (a' ++ b'):=by
 refine⟨by simp[h.1,k.1],fun i v v' hv hv'=>?_⟩
 by_cases hi:i<a.length
 ·rw[List.getElem?_append_left hi] at hv;rw[List.getElem?_append_left (h.1▸hi)] at hv'
  exact h.2 i v v' hv hv'
 ·rw[List.getElem?_append_right (by omega)] at hv;rw[List.getElem?_append_right (by have:=h.1;omega)] at hv'
  rw[←h.1] at hv'
  exact k.2 _ v v' hv hv'
theorem LRel.take {m:Mp} {a a':List Value} (h:LRel m a a') (n:Nat):LRel m (a.take n) (a'.take n):=by
 refine⟨by simp[h.1],fun i v v' hv hv'=>?_⟩
 rw[List.getElem?_take] at hv hv'
 by_cases hi:i<n
 ·simp only[hi,if_true] at hv hv';exact h.2 i v v' hv hv'
 ·simp[hi] at hv
theorem LRel.drop {m:Mp} {a a':List Value} (h:LRel m a a') (n:Nat):LRel m (a.drop n) (a'.drop n):=by
 refine⟨by simp[h.1],fun i v v' hv hv'=>?_⟩
 rw[List.getElem?_drop] at hv hv'
 exact h.2 _ v v' hv hv'
theorem LRel.get {m:Mp} {a a':List Value} (h:LRel m a a') {i:Nat} {v:Value} (hv:a[i]?=some v) : ∃v',a'[i]?=some v'∧VRel m v v':=by
 have hi:i<a.length:=by
  rcases Nat.lt_or_ge i a.length with h|h
  ·exact h
  ·rw[List.getElem?_eq_none h] at hv;cases hv
 have hi':i<a'.length:=h.1▸hi
 exact⟨a'[i],List.getElem?_eq_getElem hi',h.2 i v _ hv (List.getElem?_eq_getElem hi')⟩
theorem LRel.scal {m:Mp} {l l':List Value} (h:LRel m l l') (hs:l.all Id.scal=true):l'=l:=by
 apply List.ext_getElem? fun i=>?_
 by_cases hi:i<l.length
 ·obtain⟨v',h1,h2⟩:=h.get (List.getElem?_eq_getElem hi)
  rw[h1,List.getElem?_eq_getElem hi]
  rw[h2.scal_eq (by have:=List.all_eq_true.1 hs;exact this _ (List.getElem_mem hi))]
 ·rw[List.getElem?_eq_none (show l'.length≤i from h.1▸Nat.le_of_not_lt hi),List.getElem?_eq_none (Nat.le_of_not_lt hi)]
theorem LRel.scal_mk {m:Mp} {l:List Value} (hs:l.all Id.scal=true):LRel m l l:=by
 refine⟨rfl,fun i v v' a b=>?_⟩
 rw[a] at b;cases b
 exact .scal (List.all_eq_true.1 hs _ (List.mem_of_getElem? a))
theorem VRel.agg_iff {m:Mp} {cs cs':Array Value} (h:LRel m cs.toList cs'.toList):VRel m (.agg cs) (.agg cs') :=
 .agg (by simpa using h.1) (fun i v v' a b=>h.2 i v v' (by simpa using a) (by simpa using b))
theorem VRel.tuple_iff {m:Mp} {cs cs':Array Value} (h:LRel m cs.toList cs'.toList):VRel m (.tuple cs) (.tuple cs') :=
 .tuple (by simpa using h.1) (fun i v v' a b=>h.2 i v v' (by simpa using a) (by simpa using b))
theorem VRel.agg_inv {m:Mp} {cs:Array Value} {v':Value} (h:VRel m (.agg cs) v') : ∃cs',v'=.agg cs'∧LRel m cs.toList cs'.toList:=by
 cases h with
 | scal h=>simp[Id.scal] at h
 | agg hs h=>exact⟨_,rfl,by simpa using hs,fun i v v' a b=>h i v v' (by simpa using a) (by simpa using b)⟩
theorem VRel.tuple_inv {m:Mp} {cs:Array Value} {v':Value} (h:VRel m (.tuple cs) v') : ∃cs',v'=.tuple cs'∧LRel m cs.toList cs'.toList:=by
 cases h with
 | scal h=>simp[Id.scal] at h
 | tuple hs h=>exact⟨_,rfl,by simpa using hs,fun i v v' a b=>h i v v' (by simpa using a) (by simpa using b)⟩
theorem VRel.func_inv {m:Mp} {fn:Fn} {xs ys:Array Value} {v':Value} (h:VRel m (.func fn xs ys) v') :
  ∃fn' xs' ys',v'=.func fn' xs' ys'∧FnRel m fn fn'∧LRel m xs.toList xs'.toList∧LRel m ys.toList ys'.toList:=by
 cases h with
 | scal h=>simp[Id.scal] at h
 | func hf hx hy h1 h2 =>
  exact⟨_,_,_,rfl,hf,⟨by simpa using hx,fun i v v' a b=>h1 i v v' (by simpa using a) (by simpa using b)⟩,⟨by simpa using hy,fun i v v' a b=>h2 i v v' (by simpa using a) (by simpa using b)⟩⟩
theorem VRel.func_mk {m:Mp} {fn fn':Fn} {xs ys xs' ys':Array Value} (hf:FnRel m fn fn') (h1:LRel m xs.toList xs'.toList) (h2:LRel m ys.toList ys'.toList) :
  VRel m (.func fn xs ys) (.func fn' xs' ys') :=
 .func hf (by simpa using h1.1) (by simpa using h2.1) (fun i v v' a b=>h1.2 i v v' (by simpa using a) (by simpa using b)) (fun i v v' a b=>h2.2 i v v' (by simpa using a) (by simpa using b))
theorem VRel.ptr_inv {m:Mp} {b o:Nat} {v':Value} (h:VRel m (.pointer (some ⟨b,o,none⟩)) v') : ∃r s,m b=some (r,s)∧v'=.pointer (some ⟨r,s+o,none⟩):=by
 cases h with
 | scal h=>simp[Id.scal] at h
 | ptr h=>exact⟨_,_,h,rfl⟩
theorem VRel.plain_eq {m:Mp} {v v':Value} (h:VRel m v v') (hv:plain v=true):v'=v:=by
 by_cases ha : ∃cs,v=.agg cs
 ·obtain⟨cs,rfl⟩:=ha
  obtain⟨cs',rfl,hl⟩:=h.agg_inv
  have:cs'.toList=cs.toList:=hl.scal (by simpa [plain] using hv)
  rw[Array.toList_inj.1 this]
 ·exact h.scal_eq (by unfold plain at hv;split at hv<;>simp_all)
theorem VRel.plain_mk {m:Mp} {v:Value} (hv:plain v=true):VRel m v v:=by
 by_cases ha : ∃cs,v=.agg cs
 ·obtain⟨cs,rfl⟩:=ha
  exact VRel.agg_iff (.scal_mk (by simpa [plain] using hv))
 ·exact .scal (by unfold plain at hv;split at hv<;>simp_all)
theorem VRel.cells {m:Mp} {v v':Value} (h:VRel m v v'):LRel m v.cells.toList v'.cells.toList:=by
 by_cases ha : ∃cs,v=.agg cs
 ·obtain⟨cs,rfl⟩:=ha
  obtain⟨cs',rfl,hl⟩:=h.agg_inv
  exact hl
 ·have e1:v.cells = #[v]:=by cases v<;>simp_all [Value.cells]
  have e2:v'.cells = #[v']:=by cases h<;>simp_all [Value.cells]
  rw[e1,e2]
  exact .cons h (.nil m)
def FrRel (m:Mp) (fr:Fr) (tmps:Array Value):Prop:=∀t v,fget fr t=some v → ∃v',tmps[t]?=some v'∧VRel m v v'
structure LoopRel (m:Mp) (l:ILoop) (l':Loop):Prop where
 state:l'.state=l.state
 pending:l'.pending=l.pending
 fn:l'.fn=l.fn
 tmps:FrRel m l.fr l'.tmps
 nt:l.nt≤l'.tmps.size
 params:l'.params.toList=l.params
 assign:l'.assign=l.assign
 body:l'.body=l.body
def EntryRel (m:Mp) (e:Value×Value) (e':MapEntry):Prop:=e'.key=e.1∧plain e.1=true∧VRel m e.2 e'.val
def MapRel (m:Mp) (es:List (Value×Value)) (c:Array MapEntry):Prop:=es.length=c.size ∧ ∀(i:Nat) (e:Value×Value) (e':MapEntry),es[i]?=some e→c[i]?=some e'→EntryRel m e e'∧e'.born=i
def RowAt (m:Mp) (cs:List Value) (c:Array Value) (s:Nat):Prop:=s+cs.length≤c.size ∧ ∀(i:Nat) (v:Value),cs[i]?=some v → ∃v',c[s+i]?=some v'∧VRel m v v'
def digs (x:Nat):List Nat:=if h:x=0 then [] else x % 18446744073709551616 :: digs (x / 18446744073709551616)
 termination_by x
 decreasing_by exact Nat.div_lt_self (Nat.pos_of_ne_zero h) (by decide)
def wordsOf (x:Nat):List Value:=(digs x).map fun d:Nat=>Value.int .u64 (d:Int)
def ObjRel (m:Mp) (w:World) (r s:Nat) (z:Nat×Nat):IObj→Prop
 | .cells cs e _ => ∃c el,w.heap[r]?=some (.cells c el)∧RowAt m cs c s∧z.1=e∧z.2≤c.size
 | .map es=>s=0 ∧ ∃c,w.heap[r]?=some (.map c es.length)∧MapRel m es c
 | .loop l=>s=0 ∧ ∃l',w.heap[r]?=some (.loop l')∧LoopRel m l l'
 | .iter k since seen last=>s=0 ∧ ∃rm,w.heap[r]?=some (.mapIter (some rm) since seen.toArray last)∧m k=some (rm,0)
 | .num x=>x=0 ∨ ∃c el,w.heap[r]?=some (.cells c el)∧RowAt m (wordsOf x) c s
 | .dead=>True
def IObj.alive:IObj→Bool
 | .dead=>false
 | _=>true
def IObj.isNum:IObj→Bool
 | .num _=>true
 | _=>false
def Kin (h:IH) (k k':Nat):Prop:=∃cs t cs' t' f st,h.ext.get k=some (.cells cs t (some f))∧h.ext.get k'=some (.cells cs' t' (some f))∧h.fams.get f=some st∧k∈st∧k'∈st
structure Rel (B:Nat) (w0:World) (m:Mp) (h:IH) (w:World):Prop where
 below:Below B w0 w
 size:B≤w.heap.size
 base : ∀b cs,h.base b=some cs → ∃r s,m (2*b+1)=some (r,s)∧r<B ∧ ∃c el fz,w.heap[r]?=some (.cells c el fz)∧RowAt m cs c s
 odd : ∀b,b<4294967296→m (2*b+1)=some (b,0)
 even : ∀k r s,m (2*k)=some (r,s)→B≤r∧r<w.heap.size
 dom : ∀k,h.n≤k→h.ext.get k=none
 obj : ∀k o r s,h.ext.get k=some o→m (2*k)=some (r,s)→ObjRel m w r s (m.ez (2*k)) o
 own : ∀k k' o o' r s s',k≠k'→h.ext.get k=some o→h.ext.get k'=some o'→o.alive=true→o'.alive=true→m (2*k)=some (r,s)→m (2*k')=some (r,s')→Kin h k k'∨(o.isNum=true∧o'.isNum=true)
 famdom : ∀f st,h.fams.get f=some st→f<h.n∧(∀x∈st,x<h.n)∧st.Nodup
 fam : ∀k cs t f,h.ext.get k=some (.cells cs t (some f)) → ∃st,h.fams.get f=some st∧k∈st
 long : ∀f st,h.fams.get f=some st→st.Pairwise fun x y => ∀cs t g cs' t' g' r s s',h.ext.get x=some (.cells cs t g)→h.ext.get y=some (.cells cs' t' g') →
  m (2*x)=some (r,s)→m (2*y)=some (r,s')→s'+cs'.length≤s+cs.length
 whole : ∀f st x y,h.fams.get f=some st→x∈st→y∈st→(m (2*x)).isSome=true→(m (2*y)).isSome=true
structure Step (m:Mp) (h:IH) (w:World) (m':Mp) (h':IH) (w':World):Prop where
 le:m.le m'
 new : ∀b,m' b≠m b → ∃k,b=2*k∧h.n≤k∧k<h'.n
 n:h.n≤h'.n
 base:h'.base=h.base
 frame : ∀r,r<w.heap.size→(∀k s,k<h.n→m (2*k)≠some (r,s))→w'.heap[r]?=w.heap[r]?
 idle : ∀k,k<h.n→m (2*k)=none→h'.ext.get k=h.ext.get k
 size:w.heap.size≤w'.heap.size
 img : ∀k r s,h.n≤k→k<h'.n→m' (2*k)=some (r,s)→w.heap.size≤r ∨ ∃k0 s0,k0<h.n∧m (2*k0)=some (r,s0)
 idleF : ∀k,k<h.n→m (2*k)=none→(∀f st,h.fams.get f=some st→k∉st) → ∀f st,h'.fams.get f=some st→k∉st
def Fresh (m:Mp) (a b:Nat):Prop:=∀k,a≤k→k<b→m (2*k)=none
theorem Step.refl (m:Mp) (h:IH) (w:World):Step m h w m h w :=
 ⟨Mp.le_refl m,fun _ e=>absurd rfl e,Nat.le_refl _,rfl,fun _ _ _=>rfl,fun _ _ _=>rfl,Nat.le_refl _,fun k r s a b=>by omega,fun _ _ _ h=>h⟩
theorem Step.old {m m':Mp} {h h':IH} {w w':World} (s:Step m h w m' h' w') {k:Nat} (hk:k<h.n):m' (2*k)=m (2*k):=by
 apply Classical.byContradiction;intro hne
 obtain⟨k',e,a,_⟩:=s.new _ hne
 omega
theorem Step.trans {m m1 m2:Mp} {h h1 h2:IH} {w w1 w2:World} (s:Step m h w m1 h1 w1) (t:Step m1 h1 w1 m2 h2 w2):Step m h w m2 h2 w2:=by
 refine⟨Mp.le_trans s.le t.le,fun b hb=>?_,Nat.le_trans s.n t.n,t.base.trans s.base,fun r hr hk=>?_,fun k hk hm=>?_,Nat.le_trans s.size t.size,fun k r x hk1 hk2 hx=>?_,fun k hk hm hf=>t.idleF k (Nat.lt_of_lt_of_le hk s.n) (by rw[s.old hk,hm]) (s.idleF k hk hm hf)⟩
 ·by_cases h12:m2 b=m1 b
  ·rw[h12] at hb
   obtain⟨k,e,a,c⟩:=s.new b hb
   exact⟨k,e,a,Nat.lt_of_lt_of_le c t.n⟩
  ·obtain⟨k,e,a,c⟩:=t.new b h12
   exact⟨k,e,Nat.le_trans s.n a,c⟩
 ·rw[t.frame r (Nat.lt_of_lt_of_le hr s.size) ?_,s.frame r hr hk]
  intro k x hk1 hm1
  by_cases hkn:k<h.n
  ·exact hk k x hkn (by rw[←s.old hkn];exact hm1)
  ·rcases s.img k r x (by omega) hk1 hm1 with e|⟨k0,s0,e1,e2⟩
   ·omega
   ·exact hk k0 s0 e1 e2
 ·have hm1:m1 (2*k)=none:=by rw[s.old hk,hm]
  rw[t.idle k (Nat.lt_of_lt_of_le hk s.n) hm1,s.idle k hk hm]
 ·by_cases hkn:k<h1.n
  ·rw[t.old hkn] at hx
   exact s.img k r x hk1 hkn hx
  ·rcases t.img k r x (by omega) hk2 hx with e|⟨k0,s0,e1,e2⟩
   ·exact .inl (Nat.le_trans s.size e)
   ·by_cases hk0:k0<h.n
    ·rw[s.old hk0] at e2;exact .inr ⟨k0,s0,hk0,e2⟩
    ·exact s.img k0 r s0 (by omega) e1 e2
end Go.Id
