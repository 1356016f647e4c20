/-
  The ideal machine: an evaluator of the model's code over a memory without chance
-/
import GoSem.Step
import Derived.Calls
import Derived.Below
set_option linter.unusedVariables false
set_option linter.unusedSimpArgs false
set_option linter.defProp false
set_option linter.deprecated false
namespace Go.Id
open Go
def bA:Value→Bool
 | .bool _|.int _ _|.string _|.nilFunc|.nilIface|.pointer none|.map none=>true
 | .slice none n c=>n == 0 && c == 0
 | _=>false
def plain:Value→Bool
 | .agg cs=>cs.all bA
 | v=>bA v
abbrev Fr:=List (Nat×Value)
def ab:Fr→Nat→Option Value
 | [],_=>none
 | (s,v) :: r,t=>bif s == t then some v else ab r t
def nh (nt:Nat) (fr:Fr) (dst:Option Tmp) (v:Value):Option Fr :=
 match dst with
 | none=>some fr
 | some d=>bif Nat.blt d nt then some ((d,v) :: fr) else none
def eh (fr:Fr):List Nat→Fr
 | [] => []
 | t :: l=>match ab fr t with
  | some v=>(t,v) :: eh fr l
  | none=>eh fr l
def dL:Nat→List Value→Fr
 | _,[] => []
 | i,v :: l=>(i,v) :: dL (i+1) l
def opd (fr:Fr):Operand→Option Value
 | .tmp t=>ab fr t
 | .const v=>bif plain v then some v else none
 | .global g=>bif Nat.blt g 4294967296 then some (.pointer (some ⟨2*g+1,0,none⟩)) else none
 | .func f=>some (.func (.func f) #[] #[])
def gL (fr:Fr):List Operand→Option (List Value)
 | []=>some []
 | x :: l=>match opd fr x,gL fr l with
  | some v,some vs=>some (v :: vs)
  | _,_=>none
inductive Tr (α:Type) where
 | leaf:Tr α
 | node:Tr α→Option α→Tr α→Tr α
namespace Tr
def get {α:Type}:Tr α→Nat→Option α
 | .leaf,_=>none
 | .node l v r,n=>bif n == 0 then v else bif n % 2 == 1 then l.get (n / 2) else r.get ((n - 1) / 2)
def one {α:Type}:Nat→Nat→α→Tr α
 | 0,_,x=>.node .leaf (some x) .leaf
 | f+1,n,x=>bif n == 0 then .node .leaf (some x) .leaf else bif n % 2 == 1 then .node (one f (n / 2) x) none .leaf else .node .leaf none (one f ((n - 1) / 2) x)
def set {α:Type}:Tr α→Nat→α→Tr α
 | .leaf,n,x=>one n n x
 | .node l v r,n,x=>bif n == 0 then .node l (some x) r else bif n % 2 == 1 then .node (l.set (n / 2) x) v r else .node l v (r.set ((n - 1) / 2) x)
end Tr
structure ir where
 state:LoopState
 pending:Option Code
 fn:FuncId
 nt:Nat
 fr:Fr
 params:List Nat
 assign:Code
 body:Code
inductive bI where
 | cells (cs:List Value) (e:Nat) (fam:Option Nat)      -- e: the cells of an element, where it was made by make, a literal or append
 | map (es:List (Value×Value))
 | loop (r:ir)
 | iter (k since:Nat) (seen:List Nat) (last:Nat)        -- an iterator over map k: the entries that have been, by their places
 | num (x:Nat)        -- the words of a number; nobody writes them
 | dead
structure IH where
 base:Nat→Option (List Value)
 n:Nat
 ext:Tr bI
 bP:Tr (List Nat)
namespace IH
def new (h:IH) (o:bI):IH:={ h with n:=h.n+1,ext:=h.ext.set h.n o }
def row (h:IH) (b:Nat):Option (List Value) :=
 bif b % 2 == 1 then h.base (b / 2) else match h.ext.get (b / 2) with
  | some (.cells cs _ _)=>some cs
  | _=>none
def rd (h:IH) (b o n:Nat):Option (List Value) :=
 match h.row b with
 | some cs=>bif Nat.ble (o+n) cs.length then some ((cs.drop o).take n) else none
 | none=>none
def dJ (e:Tr bI):List Nat→Tr bI
 | []=>e
 | k :: l=>dJ (e.set k .dead) l
def aJ (cs:List Value) (o:Nat) (vs:List Value):List Value:=cs.take o ++ (vs ++ cs.drop (o+vs.length))
def wr (h:IH) (b o:Nat) (vs:List Value):Option IH :=
 bif b % 2 == 1 then none else match h.ext.get (b / 2) with
  | some (.cells cs t fam) =>
   bif Nat.ble (o+vs.length) cs.length then
    match fam with
    | none=>some { h with ext:=h.ext.set (b / 2) (.cells (aJ cs o vs) t none) }
    | some f=>match h.bP.get f with
     | some st=>some { h with ext:=(dJ h.ext (st.filter (· != b / 2))).set (b / 2) (.cells (aJ cs o vs) t none) }
     | none=>none
   else none
  | _=>none
end IH
def ar (P:Program) {α:Type}:Sem α→Option α
 | .pure a=>some a
 | .program k=>ar P (k P)
 | _=>none
def cJ (P:Program) (s:Sem Value):Option Value :=
 match ar P s with
 | some v=>bif plain v then some v else none
 | none=>none
def bh (P:Program) (t:TypeId):Option Bool:=(P.underlying t).map fun d=>match d with|.struct _|.array _ _=>true|_=>false
def aO (P:Program) (t:TypeId):Option Nat:=(P.info? t).map (·.size)
def ij (P:Program) (t:TypeId):Option Nat:=(P.info? t).map (·.bytes)
def qz (P:Program) (t:TypeId):Option Value:=(P.info? t).bind (·.zero)
def aE (P:Program) (t:TypeId):Option (List Value):=match qz P t with
 | some z=>bif plain z then some z.cells.toList else none
 | none=>none
def asAddr:Value→Option (Nat×Nat)
 | .pointer (some ⟨b,o,none⟩)=>some (b,o)
 | _=>none
def aB:Value→Bool
 | .agg _=>false
 | .tuple _=>false
 | _=>true
def ptr (b o:Nat):Value:=.pointer (some ⟨b,o,none⟩)
def load (P:Program) (h:IH) (t:TypeId) (a:Value):Option Value :=
 match asAddr a,bh P t,aO P t with
 | some (b,o),some true,some n=>(h.rd b o n).map fun cs=>.agg cs.toArray
 | some (b,o),some false,_=>(h.rd b o 1).bind (·.head?)
 | _,_,_=>none
def store (P:Program) (h:IH) (t:TypeId) (a v:Value):Option IH :=
 match asAddr a,aO P t with
 | some (b,o),some n=>bif v.cells.size == n && v.cells.toList.all aB then h.wr b o v.cells.toList else none
 | _,_=>none
def aN:Nat:=1099511627776
def jv:Nat:=16777216
def bB:Nat→List Value→List Value
 | 0,_ => []
 | n+1,z=>z ++ bB n z
def ck (place:Nat→Option (Nat×Nat)) (cells:List Value):List (Nat×Value)→Option (List Value)
 | []=>some cells
 | (i,v) :: rest=>match place i with
  | none=>none
  | some (o,n)=>bif v.cells.size == n && Nat.ble (o+n) cells.length then ck place (IH.aJ cells o v.cells.toList) rest else none
def idxOf:Value→Option Int
 | .int _ n=>some n
 | _=>none
def iQ (v:Value) (most:Nat):Option Nat :=
 match v with
 | .int _ n=>match n with
  | .ofNat m=>bif Nat.ble m most then some m else none
  | .negSucc _=>none
 | _=>none
def Sg (hi:Option Value) (len c:Nat):Option Nat:=match hi with
 | none=>some len
 | some v=>iQ v c
def HT (lo:Option Value) (h:Nat):Option Nat:=match lo with
 | none=>some 0
 | some v=>iQ v h
def fL (len c:Nat) (lo hi mx:Option Value):Option (Nat×Nat×Option Nat) :=
 match mx with
 | none=>match Sg hi len c with
  | none=>none
  | some h=>match HT lo h with
   | none=>none
   | some l=>some (l,h,none)
 | some mv=>match iQ mv c with
  | none=>none
  | some m=>match hi with
   | none=>none
   | some hv=>match iQ hv m with
    | none=>none
    | some h=>match HT lo h with
     | none=>none
     | some l=>some (l,h,some m)
def dC (size:Nat) (room:Bool) (x:Value) (lo hi mx:Option Value):Option Value :=
 match x with
 | .slice none n c=>bif n == 0 && c == 0 then (match fL 0 0 lo hi mx with|some _=>some (.slice none 0 0)|none=>none) else none
 | .slice (some ⟨b,o,none⟩) len k =>
  match fL len (k / 2) lo hi mx with
  | none=>none
  | some (l,h,om) =>
   bif k == 0 then some (.slice (some ⟨b,o,none⟩) 0 0) else match om with
   | none =>
    bif l == k / 2 then (bif k % 2 == 1 then some (.slice (some ⟨b,o,none⟩) 0 1) else some (.slice (some ⟨b,o,none⟩) 0 0))
    else bif k % 2 == 1 || room then some (.slice (some ⟨b,o+l*size,none⟩) (h - l) (k - 2*l)) else none
   | some m =>
    bif l == m then some (.slice (some ⟨b,o,none⟩) 0 1)
    else some (.slice (some ⟨b,o+l*size,none⟩) (h - l) (2*(m - l)+1))
 | _=>none
def bF (h:IH) (size n:Nat) (x:Value):Option (List Value) :=
 match x with
 | .slice none _ _=>some []
 | .slice (some ⟨b,o,none⟩) len _=>bif Nat.ble n len then (bif n*size == 0 then some [] else h.rd b o (n*size)) else none
 | _=>none
def lenOf:Value→Option Nat
 | .slice _ n _=>some n
 | _=>none
def grown (h:IH) (k f:Nat) (cs:List Value) (t:Nat) (ch below:List Nat) (cs':List Value) (t':Nat):IH :=
 { h with n:=h.n+1,ext:=((IH.dJ h.ext ch).set k (.cells cs t (some f))).set h.n (.cells cs' t' (some f)),bP:=h.bP.set f (h.n :: k :: below) }
def append (P:Program) (h:IH) (st:TypeId) (s x:Value):Option (Value×IH) :=
 match P.underlying st with
 | some (.slice elem)=>match aO P elem,ij P elem,aE P elem,lenOf x with
  | some size,some bytes,some zs,some n =>
   bif n == 0 then (match s with|.slice none a c=>bif a == 0 && c == 0 then some (s,h) else none|.slice (some ⟨_,_,none⟩) _ _=>some (s,h)|_=>none) else
   bif size == 0 || (!(Nat.ble bytes 65536) || !(zs.length == size)) then none else
   match bF h size n x with
   | none=>none
   | some new=>bif !(new.all aB) then none else match s with
    | .slice none a c=>bif a == 0 && c == 0 && Nat.ble (n*(bytes+1)) aN then some (.slice (some ⟨2*h.n,0,none⟩) n (2*n),h.new (.cells new size none)) else none
    | .slice (some ⟨b,o,none⟩) len k =>
     bif !(Nat.ble ((len+n)*(bytes+1)) aN) then none else
     bif Nat.ble (len+n) (k / 2) then (h.wr b (o+len*size) new).map fun h=>(.slice (some ⟨b,o,none⟩) (len+n) k,h)
     else bif k % 2 == 1 then
      match bF h size len s with
      | none=>none
      | some old=>some (.slice (some ⟨2*h.n,0,none⟩) (len+n) (2*(len+n)),h.new (.cells (old ++ new) size none))
     else bif len == k / 2 && Nat.blt 0 len && b % 2 == 0 then
      match h.ext.get (b / 2) with
      | some (.cells cs t fam) =>
       bif o+len*size == cs.length && t == size then
        match fam with
        | none=>some (.slice (some ⟨2*h.n,0,none⟩) (len+n) (2*(len+n)),grown h (b / 2) h.n cs t [] [] (cs.drop o ++ new) size)
        | some f=>match h.bP.get f with
         | none=>none
         | some stk=>some (.slice (some ⟨2*h.n,0,none⟩) (len+n) (2*(len+n)),
           grown h (b / 2) f cs t (stk.takeWhile (· != b / 2)) ((stk.dropWhile (· != b / 2)).drop 1) (cs.drop o ++ new) size)
       else none
      | _=>none
     else none
    | _=>none
  | _,_,_,_=>none
 | _=>none
def fG (P:Program) (t:TypeId) (f:Nat):Option Field :=
 match P.underlying t with
 | some (.struct fs)=>fs[f]?
 | _=>none
def partOf (P:Program) (t:TypeId) (cs:Array Value) (off:Nat):Option Value :=
 match bh P t,aO P t with
 | some true,some n=>some (.agg (cs.extract off (off+n)))
 | some false,_=>cs[off]?
 | _,_=>none
def um:TypeDesc→Value→Value→Option Bool
 | .slice _,.slice none _ _,.slice none _ _=>some true
 | .slice _,.slice none _ _,.slice (some ⟨_,_,none⟩) _ _=>some false
 | .slice _,.slice (some ⟨_,_,none⟩) _ _,.slice none _ _=>some false
 | .map _ _,.map none,.map none=>some true
 | .map _ _,.map none,.map (some _)=>some false
 | .map _ _,.map (some _),.map none=>some false
 | .func _ _ _,.nilFunc,.nilFunc=>some true
 | .func _ _ _,.nilFunc,.func _ _ _=>some false
 | .func _ _ _,.func _ _ _,.nilFunc=>some false
 | .pointer _,.pointer none,.pointer none=>some true
 | .pointer _,.pointer none,.pointer (some _)=>some false
 | .pointer _,.pointer (some _),.pointer none=>some false
 | _,_,_=>none
def vG (P:Program) (t:TypeId) (x y:Value):Option Bool :=
 match P.underlying t with
 | some d=>um d x y
 | none=>none
def binop (P:Program) (op:BinOp) (t:TypeId) (ox oy:Operand) (x y:Value):Option Value :=
 bif plain x && plain y then cJ P (do eqGuard op t ox oy x y;Go.binOp op t x y)
 else match op with
  | .eql=>(vG P t x y).map .bool
  | .neq=>(vG P t x y).map fun b=>.bool !b
  | _=>none
def placeOf (P:Program) (t:TypeId) (i:Nat):Option (Nat×Nat) :=
 match P.underlying t with
 | some (.struct fs)=>match fs[i]? with
  | some f=>(aO P f.type).map fun n=>(f.offset,n)
  | none=>none
 | some (.array _ e)=>(aO P e).map fun n=>(i*n,n)
 | _=>none
def cE (P:Program) (t:TypeId):Bool :=
 match P.underlying t with
 | some (.struct fs)=>fs.all fun f=>(P.info? f.type).isSome
 | some (.array _ e)=>(P.info? e).isSome
 | _=>false
def partsOf (fr:Fr):List (Nat×Operand)→Option (List (Nat×Value))
 | []=>some []
 | (i,x) :: l=>match opd fr x,partsOf fr l with
  | some v,some vs=>some ((i,v) :: vs)
  | _,_=>none
def je (es:List (Value×Value)):List MapEntry:=es.map fun e => { key:=e.1,val:=.nilIface,born:=0 }
def mapOf (h:IH) (k:Nat):Option (List (Value×Value)) :=
 bif k % 2 == 1 then none else match h.ext.get (k / 2) with
 | some (.map es)=>some es
 | _=>none
def Ba (P:Program) (kt:TypeId) (k:Value) (es:List (Value×Value)):Option (Option Nat) :=
 bif plain k then
  match ar P (Instr.checkKey es.isEmpty 10000 kt k),ar P (Instr.findKey kt k (je es)) with
  | some (),some r=>some (r.map (·.1))
  | _,_=>none
 else none
def entriesOf (h:IH):Value→Option (List (Value×Value))
 | .map none=>some []
 | .map (some r)=>mapOf h r
 | _=>none
def Rt:Option Unit→Bool
 | some _=>true
 | none=>false
def lookup (P:Program) (h:IH) (mt:TypeId) (m k:Value) (ok:Bool):Option Value :=
 match P.underlying mt with
 | some (.map kt et) =>
  match entriesOf h m with
  | none=>none
  | some es=>match Ba P kt k es with
   | none=>none
   | some none=>match qz P et with
    | some z=>bif plain z then some (bif ok then .tuple #[z,.bool false] else z) else none
    | none=>none
   | some (some i)=>(es[i]?).map fun e=>bif ok then .tuple #[e.2,.bool true] else e.2
 | _=>none
def mapUpdate (P:Program) (h:IH) (mt:TypeId) (m k v:Value):Option IH :=
 match P.underlying mt,m with
 | some (.map kt _),.map (some r) =>
  match mapOf h r with
  | none=>none
  | some es =>
   bif Rt (ar P (Instr.checkKey false 10000 kt k)) then
   match Ba P kt k es with
   | none=>none
   | some none=>some { h with ext:=h.ext.set (r / 2) (.map (es ++ [(k,v)])) }
   | some (some i)=>match es[i]? with
    | some e=>bif Instr.sameBits 10000 e.1 k then some { h with ext:=h.ext.set (r / 2) (.map (es.set i (k,v))) } else none
    | none=>none
   else none
 | _,_=>none
def makeSlice (P:Program) (h:IH) (t:TypeId) (l c:Value):Option (Value×IH) :=
 match P.underlying t with
 | some (.slice e)=>match iQ l aN,iQ c aN,aO P e,ij P e,aE P e with
  | some l,some c,some n,some by_,some z =>
   bif Nat.ble l c && Nat.ble (c*(by_+1)) aN && z.length == n then
    some (.slice (some ⟨2*h.n,0,none⟩) l (2*c+1),h.new (.cells (bB c z) n none))
   else none
  | _,_,_,_,_=>none
 | _=>none
def buildSlice (P:Program) (h:IH) (t:TypeId) (len:Nat) (parts:List (Nat×Value)):Option (Value×IH) :=
 match P.underlying t with
 | some (.slice e)=>match aO P e,aE P e with
  | some n,some z=>bif Nat.ble (len*n) jv && z.length == n then
    match ck (fun i=>some (i*n,n)) (bB len z) parts with
    | some cells=>some (.slice (some ⟨2*h.n,0,none⟩) len (2*len+1),h.new (.cells cells n none))
    | none=>none
   else none
  | _,_=>none
 | _=>none
def indexAddr (P:Program) (t:TypeId) (x i:Value):Option Value :=
 match P.underlying t,x,idxOf i with
 | some (.array n e),.pointer (some ⟨b,o,none⟩),some i=>match aO P e,i with
  | some size,.ofNat j=>bif Nat.blt j n then some (.pointer (some ⟨b,o+j*size,none⟩)) else none
  | _,_=>none
 | some (.slice e),.slice (some ⟨b,o,none⟩) n _,some i=>match aO P e,i with
  | some size,.ofNat j=>bif Nat.blt j n then some (.pointer (some ⟨b,o+j*size,none⟩)) else none
  | _,_=>none
 | _,_,_=>none
def roomy (h:IH) (size:Nat) (x:Value):Bool :=
 match x with
 | .slice (some ⟨b,_,_⟩) _ _=>b % 2 == 0 && (match h.ext.get (b / 2) with
  | some (.cells _ e _)=>e == size
  | _=>false)
 | _=>false
def cT (P:Program) (h:IH) (t:TypeId) (x:Value) (lo hi mx:Option Value):Option Value :=
 match P.underlying t with
 | some (.slice e)=>match aO P e with
  | some size=>dC size (roomy h size x) x lo hi mx
  | none=>none
 | some (.array n e)=>match aO P e,asAddr x with
  | some size,some (b,o)=>dC size false (.slice (some ⟨b,o,none⟩) n (2*n+1)) lo hi mx
  | _,_=>none
 | some (.pointer arr)=>match P.underlying arr with
  | some (.array n e)=>match aO P e,asAddr x with
   | some size,some (b,o)=>dC size false (.slice (some ⟨b,o,none⟩) n (2*n+1)) lo hi mx
   | _,_=>none
  | _=>none
 | some .string=>bif plain x && (lo.all plain && hi.all plain && mx.all plain) then cJ P (Instr.slice t x lo hi mx) else none
 | _=>none
def dr (fr:Fr):Option Operand→Option (Option Value)
 | none=>some none
 | some x=>(opd fr x).map some
def uD (P:Program) (h:IH) (dt:TypeId) (d s:Value):Option (Value×IH) :=
 match P.underlying dt,lenOf d,lenOf s with
 | some (.slice e),some dn,some sn=>match aO P e with
  | some size =>
   let n:=Nat.min sn dn
   match bF h size n s with
   | none=>none
   | some cs=>match d with
    | .slice none _ _=>some (.int .i64 n,h)
    | .slice (some ⟨b,o,none⟩) _ _=>bif cs.isEmpty then some (.int .i64 n,h) else bif !(cs.all aB) then none else (h.wr b o cs).map fun h=>(.int .i64 n,h)
    | _=>none
  | none=>none
 | _,_,_=>none
def wu (P:Program) (h:IH) (t:TypeId) (x:Value):Option (Value×IH) :=
 match P.underlying t,x with
 | some (.slice _),.slice none _ _=>some (.tuple #[],h)
 | some (.slice e),.slice (some ⟨b,o,none⟩) n _=>bif n == 0 then some (.tuple #[],h) else
  match aE P e with
  | some z=>bif z.isEmpty || !(z.all aB) then none else (h.wr b o (bB n z)).map fun h=>(.tuple #[],h)
  | none=>none
 | _,_=>none
def Zq (P:Program) (t:TypeId) (x:Value):Option Value :=
 match P.underlying t,x with
 | some (.slice _),.slice none _ _=>some (.int .i64 0)
 | some (.slice _),.slice (some ⟨_,_,none⟩) _ k=>bif k % 2 == 1 then some (.int .i64 ((k / 2:Nat):Int)) else none
 | _,_=>none
def ot (P:Program) (h:IH) (t:TypeId) (x:Value):Option Value :=
 match P.underlying t,x with
 | some .string,.string s=>some (.int .i64 s.size)
 | some (.array n _),_=>some (.int .i64 n)
 | some (.pointer a),_=>match P.underlying a with
  | some (.array n _)=>some (.int .i64 n)
  | _=>none
 | some (.slice _),.slice _ n _=>some (.int .i64 n)
 | some (.map _ _),.map none=>some (.int .i64 0)
 | some (.map _ _),.map (some r)=>(mapOf h r).map fun es=>.int .i64 es.length
 | _,_=>none
def cj (P:Program) (t:Option TypeId):Bool :=
 match t with
 | some t=>match P.underlying t with
  | some (.slice _)=>true
  | _=>false
 | none=>false
def Fc (P:Program) (t:Option TypeId):Bool :=
 match t with
 | some t=>match P.underlying t with
  | some (.int _)=>true
  | _=>false
 | none=>false
def nU (P:Program) (h:IH) (st:TypeId) (s x:Value):Option (Value×IH) :=
 match P.underlying st with
 | some (.slice elem)=>match aO P elem,ij P elem,aE P elem,iQ x aN with
  | some size,some bytes,some zs,some n=>match s with
   | .slice none a c =>
    bif a == 0 && c == 0 && (Nat.blt 0 n && Nat.blt 0 size) && (Nat.ble bytes 65536 && zs.length == size) && (zs.all aB && Nat.ble (n*(bytes+1)) aN) then
     some (.slice (some ⟨2*h.n,0,none⟩) n (2*n),h.new (.cells (bB n zs) size none)) else none
   | _=>none
  | _,_,_,_=>none
 | _=>none
def builtin (P:Program) (h:IH) (b:Builtin) (ts:Array TypeId) (args:List Value):Option (Value×IH) :=
 match b,args with
 | .len,[x]=>match ts[0]? with
  | some t=>(ot P h t x).map (·,h)
  | none=>none
 | .append,[s,x]=>bif cj P ts[1]? then
   (match ts[0]? with|some st=>append P h st s x|none=>none) else
   bif Fc P ts[1]? then (match ts[0]? with|some st=>nU P h st s x|none=>none) else none
 | .copy,[d,s]=>match ts[0]? with
  | some dt=>uD P h dt d s
  | none=>none
 | .clear,[x]=>match ts[0]? with
  | some t=>wu P h t x
  | none=>none
 | .cap,[x]=>match ts[0]? with
  | some t=>(Zq P t x).map (·,h)
  | none=>none
 | .max,_=>bif args.all plain then (cJ P (Builtin.max_ ts 0 args.toArray)).map (·,h) else none
 | .min,_=>bif args.all plain then (cJ P (Builtin.min_ ts 0 args.toArray)).map (·,h) else none
 | _,_=>none
def iop (P:Program) (fr:Fr) (o:Op) (h:IH):Option (Value×IH) :=
 match o with
 | .move x|.assign x=>(opd fr x).map (·,h)
 | .pick c a b=>match opd fr c with
  | some (.bool true)=>(opd fr a).map (·,h)
  | some (.bool false)=>(opd fr b).map (·,h)
  | _=>none
 | .alloc t=>(aE P t).map fun z=>(ptr (2*h.n) 0,h.new (.cells z 0 none))
 | .box t x=>(opd fr x).map fun v=>(ptr (2*h.n) 0,h.new (.cells v.cells.toList 0 none))
 | .build t parts=>match aE P t,partsOf fr parts.toList with
  | some z,some ps=>bif cE P t then (ck (placeOf P t) z ps).map fun cs=>(.agg cs.toArray,h) else none
  | _,_=>none
 | .buildSlice t len parts=>match partsOf fr parts.toList with
  | some ps=>buildSlice P h t len ps
  | none=>none
 | .load t a=>match opd fr a with
  | some a=>(load P h t a).map (·,h)
  | none=>none
 | .store t a x=>match opd fr a,opd fr x with
  | some a,some v=>(store P h t a v).map (undef,·)
  | _,_=>none
 | .nilCheck x=>match opd fr x with
  | some (.pointer (some a))=>some (.pointer (some a),h)
  | some (.func (.func f) xs ys)=>some (.func (.func f) xs ys,h)
  | some (.func (.yield f) xs ys)=>some (.func (.yield f) xs ys,h)
  | some (.map r)=>some (.map r,h)
  | _=>none
 | .binOp op t x y _=>match opd fr x,opd fr y with
  | some a,some b=>(binop P op t x y a b).map (·,h)
  | _,_=>none
 | .unOp op _ x=>match opd fr x with
  | some v=>bif plain v then (cJ P (Op.unary op v)).map (·,h) else none
  | none=>none
 | .convert s d x=>match opd fr x with
  | some v=>bif plain v then (cJ P (Go.convert s d v)).map (·,h) else none
  | none=>none
 | .sliceToArrayPointer t x=>match P.underlying t,opd fr x with
  | some (.array n _),some (.slice (some ⟨b,o,none⟩) len k)=>bif Nat.ble n len && Nat.blt 0 k then some (.pointer (some ⟨b,o,none⟩),h) else none
  | _,_=>none
 | .makeFunc fn first cap=>match gL fr first.toList,gL fr cap.toList with
  | some a,some b=>match fn with
   | .func f=>some (.func (.func f) a.toArray b.toArray,h)
   | _=>none
  | _,_=>none
 | .makeMap t r=>match r with
  | none=>some (.map (some (2*h.n)),h.new (.map []))
  | some x=>match opd fr x,P.underlying t with
   | some (.int _ _),some (.map _ _)=>some (.map (some (2*h.n)),h.new (.map []))
   | _,_=>none
 | .makeSlice t l c=>match opd fr l,opd fr c with
  | some l,some c=>makeSlice P h t l c
  | _,_=>none
 | .slice t x lo hi mx=>match opd fr x,dr fr lo,dr fr hi,dr fr mx with
  | some x,some lo,some hi,some mx=>(cT P h t x lo hi mx).map (·,h)
  | _,_,_,_=>none
 | .fieldAddr t x f=>match opd fr x,fG P t f with
  | some x,some f=>match asAddr x,aO P f.type with
   | some (b,o),some n=>bif n == 0 then none else some (ptr b (o+f.offset),h)
   | _,_=>none
  | _,_=>none
 | .field t x f=>match opd fr x,fG P t f with
  | some (.agg cs),some f=>(partOf P f.type cs f.offset).map (·,h)
  | _,_=>none
 | .indexAddr t x i=>match opd fr x,opd fr i with
  | some x,some i=>(indexAddr P t x i).map (·,h)
  | _,_=>none
 | .index t x i=>match opd fr x,opd fr i with
  | some (.agg cs),some i=>match P.underlying t,idxOf i with
   | some (.array n e),some (.ofNat j)=>bif Nat.blt j n then match aO P e with
     | some size=>(partOf P e cs (j*size)).map (·,h)
     | none=>none
    else none
   | _,_=>none
  | some (.string s),some i=>bif plain i then (cJ P (Instr.index t (.string s) i)).map (·,h) else none
  | _,_=>none
 | .lookup t m k ok=>match opd fr m,opd fr k with
  | some m,some k=>(lookup P h t m k ok).map (·,h)
  | _,_=>none
 | .mapUpdate t m k v|.insert t m k v=>match opd fr m,opd fr k,opd fr v with
  | some m,some k,some v=>(mapUpdate P h t m k v).map (undef,·)
  | _,_,_=>none
 | .extract x i=>match opd fr x with
  | some (.tuple vs)=>(vs[i]?).map (·,h)
  | _=>none
 | .range t x=>match P.underlying t,opd fr x with
  | some (.map _ _),some (.map (some k))=>(mapOf h k).map fun es=>(ptr (2*h.n) 0,h.new (.iter k es.length [] es.length))
  | _,_=>none
 | .entry x=>match opd fr x with
  | some (.pointer (some ⟨b,0,none⟩))=>bif b % 2 == 1 then none else match h.ext.get (b / 2) with
   | some (.iter k _ seen last)=>match mapOf h k,seen.getLast? with
    | some es,some i=>bif es.length == last then (es[i]?).map fun e=>(.tuple #[e.1,e.2],h) else none
    | _,_=>none
   | _=>none
  | _=>none
 | .call c=>match c.callee with
  | .builtin b=>match gL fr c.args.toList with
   | some vs=>builtin P h b c.argTypes vs
   | none=>none
  | _=>none
 | _=>none
end Go.Id
namespace Go.Id
open Go
structure Env where
 P:Program
 lv:FuncId→Nat→Option (List Nat)
 tk:FuncId→Option (List Value→IH→Option (Value×IH))
abbrev bU:=Value→List Value→IH→Option (Value×IH)
def bE (ops:List Oper) (o:Oper) (fr:Fr):Option Bool :=
 match o.guard with
 | none=>some true
 | some (j,want)=>match (ops[j]?).bind (·.dst) with
  | some d=>match ab fr d with
   | some (.bool b)=>some (b == want)
   | some (.tuple _)=>some false
   | _=>none
  | none=>none
def dh (E:Env) (call:bU) (fr:Fr) (o:Op) (h:IH):Option (Value×IH) :=
 match o with
 | .call c=>match c.callee with
  | .value f=>match opd fr f,gL fr c.args.toList with
   | some fv,some vs=>call fv vs h
   | _,_=>none
  | _=>iop E.P fr (.call c) h
 | o=>iop E.P fr o h
def de (E:Env) (call:bU) (nt:Nat) (ops:List Oper) (o:Oper) (fr:Fr) (h:IH):Option (Fr×IH) :=
 match bE ops o fr with
 | some true=>match dh E call fr o.op h with
  | some (v,h)=>(nh nt fr o.dst v).map (·,h)
  | none=>none
 | some false=>(nh nt fr o.dst undef).map (·,h)
 | none=>none
def fu (E:Env) (call:bU) (nt:Nat) (ops:List Oper):List Oper→Fr→IH→Option (Fr×IH)
 | [],fr,h=>some (fr,h)
 | o :: l,fr,h=>match de E call nt ops o fr h with
  | some (fr,h)=>fu E call nt ops l fr h
  | none=>none
inductive ZJ where
 | pure|load|alloc|chain
 deriving DecidableEq
def cL:Op→ZJ
 | .move _|.assign _|.pick _ _ _|.build _ _|.nilCheck _|.binOp _ _ _ _ _|.unOp _ _ _|.convert _ _ _|.sliceToArrayPointer _ _|.makeFunc _ _ _|.fieldAddr _ _ _|.field _ _ _
 | .indexAddr _ _ _|.index _ _ _|.extract _ _=>.pure
 | .load _ _|.lookup _ _ _ _|.slice _ _ _ _ _=>.load
 | .alloc _|.box _ _|.buildSlice _ _ _|.makeMap _ _|.makeSlice _ _ _=>.alloc
 | .call c=>match c.callee with
  | .builtin .len=>.load
  | .builtin .max=>.pure
  | .builtin .min=>.pure
  | _=>.chain
 | _=>.chain
def uo (acc:List Nat) (o:Oper):Nat:=o.after.toList.foldr (fun e s=>bif Region.binds .any e then s ||| 2 ^ e.on ||| acc.getD e.on 0 else s) 0
def qh:List Nat→List Oper→List Nat
 | acc,[]=>acc
 | acc,o :: l=>qh (acc ++ [uo acc o]) l
def tmpsOf (l:List Operand):List Nat:=l.filterMap fun x=>match x with|.tmp t=>some t|_=>none
def reads (ops:List Oper) (o:Oper):List Nat :=
 tmpsOf o.op.operands.toList ++ (match o.guard with|some (g,_)=>((ops[g]?).bind (·.dst)).toList|none => [])
def yx (ops:List Oper) (x y:Oper):Bool :=
 (match x.dst with|some d=>y.dst == some d || (reads ops y).contains d|none=>false) || (match y.dst with|some d=>(reads ops x).contains d|none=>false)
def lU (ops:List Oper):Bool :=
 let ms:=qh [] ops
 (List.range ops.length).all fun j=>match ops[j]? with
  | none=>true
  | some y =>
   y.after.toList.all (fun e => !Region.binds .any e || Nat.blt e.on j) &&
   (match y.guard with|none=>true|some (g,_)=>(ms.getD j 0).testBit g) &&
   (List.range j).all fun i=>match ops[i]? with
    | none=>true
    | some x=>(ms.getD j 0).testBit i || !(yx ops x y || (cL x.op == .chain && cL y.op == .chain))
def yJ (ops:List Oper):List (Nat×List Nat) :=
 let ms:=qh [] ops
 let chain:=(List.range ops.length).filter fun k=>match ops[k]? with|some o=>cL o.op == .chain|none=>false
 (List.range ops.length).filterMap fun i=>match ops[i]? with
  | none=>none
  | some o=>bif cL o.op == .load then
    some (i,(chain ++ [ops.length]).filter fun p =>
     chain.all fun k=>bif Nat.blt k p then !(ms.getD k 0).testBit i else !(ms.getD i 0).testBit k)
   else none
def trace (E:Env) (call:bU) (nt:Nat) (ops:List Oper):List Oper→Fr→IH→Option (List (Fr×IH))
 | [],fr,h=>some [(fr,h)]
 | o :: l,fr,h=>match de E call nt ops o fr h with
  | some (fr',h')=>(trace E call nt ops l fr' h').map ((fr,h) :: ·)
  | none=>none
def eqS:Value→Value→Bool
 | .bool a,.bool b=>a == b
 | .int j a,.int k b=>j == k && a == b
 | .string a,.string b=>a.data.toList == b.data.toList
 | .pointer a,.pointer b=>a == b
 | .slice a n c,.slice b m d=>a == b && n == m && c == d
 | .map a,.map b=>a == b
 | .nilFunc,.nilFunc=>true
 | .nilIface,.nilIface=>true
 | _,_=>false
def eqL:List Value→List Value→Bool
 | [],[]=>true
 | a :: l,b :: m=>eqS a b && eqL l m
 | _,_=>false
def eqA:Value→Value→Bool
 | .agg a,.agg b=>eqL a.toList b.toList
 | .func f a c,.func g b d=>f == g && eqL a.toList b.toList && eqL c.toList d.toList
 | a,b=>eqS a b
def eqT:List Value→List Value→Bool
 | [],[]=>true
 | a :: l,b :: m=>eqA a b && eqT l m
 | _,_=>false
def Zf:Value→Value→Bool
 | .tuple a,.tuple b=>eqT a.toList b.toList
 | a,b=>eqA a b
noncomputable def eqV (a b:Value):Bool:=Zf a b || @decide (a=b) (Classical.propDecidable _)
def Il (a:Value):eqV a a=true:=by simp[eqV]
noncomputable section
def gP (P:Program) (fr:Fr) (o:Op) (h h':IH):Bool :=
 match iop P fr o h,iop P fr o h' with
 | some (v,_),some (v',_)=>eqV v v'
 | _,_=>false
def steady (P:Program) (ops:List Oper) (tr:List (Fr×IH)) (pl:List (Nat×List Nat)):Bool :=
 pl.all fun e=>match ops[e.1]?,tr[e.1]? with
  | some o,some (fr,h)=>match bE ops o fr with
   | some true=>e.2.all fun p=>match tr[p]? with
    | some (_,h')=>gP P fr o.op h h'
    | none=>false
   | _=>true
  | _,_=>false
def gV (E:Env) (call:bU) (nt:Nat) (ops:List Oper) (fr:Fr) (h:IH):Option (Fr×IH) :=
 match trace E call nt ops ops fr h with
 | none=>none
 | some tr=>bif lU ops && steady E.P ops tr (yJ ops) then tr[ops.length]? else none
inductive bN where
 | normal
 | exit (id:Nat)
 | ret
abbrev Out:=Option (bN×Fr×IH)
def mJ (b:Fr→IH→Out):Nat→Fr→IH→Out
 | 0,_,_=>none
 | n+1,fr,h=>match b fr h with
  | some (.normal,fr,h)=>mJ b n fr h
  | some (.exit i,fr,h)=>some (.exit i,fr,h)
  | some (.ret,fr,h)=>some (.ret,fr,h)
  | none=>none
def hP (E:Env) (fn:FuncId) (id:Nat) (fr:Fr):Fr :=
 match E.lv fn id with
 | some l=>eh fr l
 | none=>fr
def fx (h:IH) (k:Nat):Option ir :=
 match h.ext.get k with
 | some (.loop r)=>some r
 | _=>none
def uC:Option Code→Option bN
 | none=>some .normal
 | some (.exit i)=>some (.exit i)
 | some .ret=>some .ret
 | _=>none
def pF (h:IH):Option Nat→Bool
 | none=>true
 | some l=>(fx h l).isSome
def kG (E:Env) (call:bU) (fn:FuncId) (nt:Nat) (rd:Option Nat) (f:Operand) (params:List Nat) (assign body:Code) (fr:Fr) (h:IH):Out :=
 match (bif pF h rd then opd fr f else none) with
 | none=>none
 | some fv =>
  match call fv [.func (.yield (2*h.n)) #[] #[]] (h.new (.loop { state:=.ready,pending:=none,fn,nt,fr,params,assign,body })) with
  | none=>none
  | some (_,h1)=>match fx h1 h.n with
   | none=>none
   | some r=>bif r.state == .busy then none else match uC r.pending with
    | none=>none
    | some e=>some (e,fr,{ h1 with ext:=h1.ext.set h.n .dead })
def rA (ops:List Oper) (draw:Bool):Option (Nat×Nat×Nat) :=
 match draw,ops with
 | false,[⟨some nx,.next (.tmp it) false,_,_,_,none⟩,⟨some more,.extract (.tmp x) 0,_,_,_,none⟩]=>bif x == nx then some (it,nx,more) else none
 | _,_=>none
def pM (nt nx more:Nat) (v:Value) (b:Bool) (fr:Fr):Option Fr :=
 match nh nt fr (some nx) v with
 | some fr=>nh nt fr (some more) (.bool b)
 | none=>none
def Fb (fr:Fr) (h:IH) (it kb k:Nat) (es:List (Value×Value)) (seen:List Nat):Prop :=
 ab fr it=some (ptr (2*kb) 0)∧h.ext.get kb=some (.iter k es.length seen es.length)∧mapOf h k=some es
open Classical in
def eX (rest:Fr→IH→Out) (hd:Fr→Fr) (nt it nx more kb k:Nat) (es:List (Value×Value)):List Nat→List Nat→Fr→IH→Out
 | [],seen,fr,h=>if Fb (hd fr) h it kb k es seen then
   match pM nt nx more (.tuple #[.bool false]) false (hd fr) with
   | none=>none
   | some fr=>match rest fr h with
    | some (.normal,_,_)=>none
    | o=>o
  else none
 | i :: l,seen,fr,h=>if Fb (hd fr) h it kb k es seen then
   match es[i]? with
   | none=>none
   | some e=>match pM nt nx more (.tuple #[.bool true,e.1,e.2]) true (hd fr) with
    | none=>none
    | some fr=>match rest fr { h with ext:=h.ext.set kb (.iter k es.length (seen ++ [i]) es.length) } with
     | some (.normal,fr,h)=>eX rest hd nt it nx more kb k es l (seen ++ [i]) fr h
     | o=>o
  else none
open Classical in
def common (nt n:Nat) (R:List Nat→Out):Out :=
 if c : ∃o:bN×IH,∀l:List Nat,l.Perm (List.range n) → ∃fr,R l=some (o.1,fr,o.2) then
  some (c.choose.1,(List.range nt).filterMap (fun t=>if d : ∃v,∀l:List Nat,l.Perm (List.range n) → ∀e fr h,R l=some (e,fr,h)→ab fr t=some v then some (t,d.choose) else none),c.choose.2)
 else none
def HX (kb:Nat):Out→Out
 | none=>none
 | some p=>match p.2.2.ext.get kb with
  | some (.iter _ _ _ _)=>some (p.1,p.2.1,{ p.2.2 with ext:=p.2.2.ext.set kb .dead })
  | _=>none
open Classical in
def sL (rest:Fr→IH→Out) (hd:Fr→Fr) (nt it nx more:Nat) (fr:Fr) (h:IH):Out :=
 match ab (hd fr) it with
 | some (.pointer (some ⟨b,0,none⟩))=>bif b % 2 == 1 then none else match h.ext.get (b / 2) with
  | some (.iter k _ _ _)=>match mapOf h k with
   | some es=>common nt es.length fun l=>if l.Perm (List.range es.length) then HX (b / 2) (eX rest hd nt it nx more (b / 2) k es l [] fr h) else none
   | none=>none
  | _=>none
 | _=>none
def evC (E:Env) (call:bU) (fn:FuncId) (nt:Nat) (rd:Option Nat) (n:Nat):Code→Fr→IH→Out
 | .skip,fr,h=>some (.normal,fr,h)
 | .label _,fr,h=>some (.normal,fr,h)
 | .region id ops draw,fr,h =>
  match (bif draw then gV E call nt ops.toList (hP E fn id fr) h else fu E call nt ops.toList ops.toList (hP E fn id fr) h) with
  | some (fr,h)=>some (.normal,fr,h)
  | none=>none
 | .seq a b,fr,h=>match evC E call fn nt rd n a fr h with
  | some (.normal,fr,h)=>evC E call fn nt rd n b fr h
  | some (.exit i,fr,h)=>some (.exit i,fr,h)
  | some (.ret,fr,h)=>some (.ret,fr,h)
  | none=>none
 | .cond c a b,fr,h=>match opd fr c with
  | some (.bool true)=>evC E call fn nt rd n a fr h
  | some (.bool false)=>evC E call fn nt rd n b fr h
  | _=>none
 | .block id b,fr,h=>match evC E call fn nt rd n b fr h with
  | some (.exit i,fr,h)=>bif i == id then some (.normal,fr,h) else some (.exit i,fr,h)
  | some (.normal,fr,h)=>some (.normal,fr,h)
  | some (.ret,fr,h)=>some (.ret,fr,h)
  | none=>none
 | .loop b,fr,h=>match b with
  | .seq (.region id ops draw) rest=>match rA ops.toList draw with
   | some (it,nx,more)=>sL (evC E call fn nt rd n rest) (hP E fn id) nt it nx more fr h
   | none=>mJ (evC E call fn nt rd n (.seq (.region id ops draw) rest)) n fr h
  | b=>mJ (evC E call fn nt rd n b) n fr h
 | .scope b,fr,h=>evC E call fn nt rd n b fr h
 | .rangeFunc f ps a b,fr,h=>kG E call fn nt rd f ps.toList a b fr h
 | .exit i,fr,h=>some (.exit i,fr,h)
 | .ret,fr,h=>some (.ret,fr,h)
 | .goto _,_,_=>none
 | .refuse _,_,_=>none
def gW (P:Program) (fr:Fr) (h:IH):ResultVar→Option Value
 | .tmp t=>ab fr t
 | .cell a t=>match ab fr a with
  | some v=>load P h t v
  | none=>none
def bf (P:Program) (fr:Fr) (h:IH):List ResultVar→Option (List Value)
 | []=>some []
 | r :: l=>match gW P fr h r,bf P fr h l with
  | some v,some vs=>some (v :: vs)
  | _,_=>none
def single:List Value→Value
 | [v]=>v
 | vs=>.tuple vs.toArray
def mW (name:String) (args:List Value):Option Value :=
 match args with
 | [.int .u64 (.ofNat x),.int .u64 (.ofNat y),.int .u64 (.ofNat c)]=>bif Nat.ble c 1 then
   (bif name == "math/bits.Add64" then some (.tuple #[.int .u64 ((x+y+c) % 18446744073709551616:Nat),.int .u64 ((x+y+c) / 18446744073709551616:Nat)])
    else bif name == "math/bits.Sub64" then some (.tuple #[.int .u64 ((x+18446744073709551616 - y - c) % 18446744073709551616:Nat),.int .u64 ((bif Nat.blt x (y+c) then 1 else 0:Nat))]) else none)
  else none
 | _=>none
def ov (E:Env) (call:bU) (n:Nat) (f:FuncId) (args:List Value) (h:IH):Option (Value×IH) :=
 match E.tk f with
 | some g=>g args h
 | none=>match E.P.funcs[f]? with
  | none=>none
  | some fn=>match fn.body with
   | none=>(mW fn.name args).map (·,h)
   | some c=>bif Nat.ble args.length fn.ntmps then
     match evC E call f fn.ntmps none n c (dL 0 args) h with
     | some (.exit _,_,_)=>none
     | some (_,fr,h)=>(bf E.P fr h fn.results.toList).map fun vs=>(single vs,h)
     | none=>none
    else none
def dZ (nt:Nat):List Nat→List Value→Fr→Option Fr
 | [],[],fr=>some fr
 | t :: l,v :: vs,fr=>match nh nt fr (some t) v with
  | some fr=>dZ nt l vs fr
  | none=>none
 | _,_,_=>none
def dM (E:Env) (call:bU) (n:Nat) (l:Nat) (args:List Value) (h:IH):Option (Value×IH) :=
 match fx h l with
 | none=>none
 | some r=>match dZ r.nt r.params args r.fr with
  | none=>none
  | some fr=>match evC E call r.fn r.nt (some l) n r.assign fr h with
   | some (.normal,fr,h)=>match fx h l with
    | none=>none
    | some r1=>bif r1.state == .ready then
      match evC E call r.fn r.nt (some l) n r.body fr { h with ext:=h.ext.set l (.loop { r1 with state:=.busy }) } with
      | none=>none
      | some (e,_,h)=>match fx h l with
       | none=>none
       | some r2=>match e with
        | .normal=>some (.bool true,{ h with ext:=h.ext.set l (.loop { r2 with state:=.ready,pending:=none }) })
        | .exit i=>some (.bool false,{ h with ext:=h.ext.set l (.loop { r2 with state:=.done,pending:=some (.exit i) }) })
        | .ret=>some (.bool false,{ h with ext:=h.ext.set l (.loop { r2 with state:=.done,pending:=some .ret }) })
     else none
   | _=>none
def cc (E:Env):Nat→bU
 | 0,_,_,_=>none
 | n+1,fv,vs,h=>match fv with
  | .func (.func f) first cap=>ov E (cc E n) n f (first.toList ++ (vs ++ cap.toList)) h
  | .func (.yield l) first _=>bif l % 2 == 0 then dM E (cc E n) n (l / 2) (first.toList ++ vs) h else none
  | _=>none
end
end Go.Id
namespace Go.Id
open Go Go.RowKit
structure Mp where
 at_:Nat→Option (Nat×Nat)
 ez:Nat→Nat×Nat
instance:CoeFun Mp fun _=>Nat→Option (Nat×Nat):=⟨Mp.at_⟩
def Mp.le (m m':Mp):Prop:=∀b x,m b=some x→m' b=some x∧m'.ez b=m.ez b
def Mp.le_refl (m:Mp):m.le m:=fun _ _ h=>⟨h,rfl⟩
def Mp.le_trans {a b c:Mp} (h:a.le b) (k:b.le c):a.le c:=fun x y e=>let ⟨p,q⟩:=h x y e;let ⟨r,s⟩:=k x y p;⟨r,s.trans q⟩
def si (m:Mp):Fn→Fn→Prop
 | .yield l,.yield r => ∃s,m l=some (r,s)
 | .func f,.func g=>f=g
 | _,_=>False
inductive aG (m:Mp):Value→Value→Prop where
 | bA {v:Value} (h:bA v=true):aG m v v
 | ptr {b o r s:Nat} (h:m b=some (r,s)):aG m (.pointer (some ⟨b,o,none⟩)) (.pointer (some ⟨r,s+o,none⟩))
 | slice {b o r s len k cap:Nat} (h:m b=some (r,s)) (hk0:0<k) (hl:len≤k / 2) (hk:k / 2≤cap) (hx:k % 2=1→cap=k / 2) (hz:k % 2=0→s+o+cap*(m.ez b).1≤(m.ez b).2) :
   aG m (.slice (some ⟨b,o,none⟩) len k) (.slice (some ⟨r,s+o,none⟩) len cap)
 | lost {b o cap:Nat} {a:Addr}:aG m (.slice (some ⟨b,o,none⟩) 0 0) (.slice (some a) 0 cap)
 | tok {b n cap:Nat} {a:Option Addr} (hc:n≤cap) (h:(n=0∧(a=none→cap=0)) ∨ ∃r s,m b=some (r,s)∧a=some ⟨r,s,none⟩):aG m (.slice (some ⟨b,0,some 0⟩) n 0) (.slice a n cap)
 | map {b r s:Nat} (h:m b=some (r,s)):aG m (.map (some b)) (.map (some r))
 | func {fn fn':Fn} {xs xs' ys ys':Array Value} (hf:si m fn fn') (hx:xs.size=xs'.size) (hy:ys.size=ys'.size)
   (h1 : ∀(i:Nat) (v v':Value),xs[i]?=some v→xs'[i]?=some v'→aG m v v') (h2 : ∀(i:Nat) (v v':Value),ys[i]?=some v→ys'[i]?=some v'→aG m v v'):aG m (.func fn xs ys) (.func fn' xs' ys')
 | agg {cs cs':Array Value} (hs:cs.size=cs'.size) (h : ∀(i:Nat) (v v':Value),cs[i]?=some v→cs'[i]?=some v'→aG m v v'):aG m (.agg cs) (.agg cs')
 | tuple {cs cs':Array Value} (hs:cs.size=cs'.size) (h : ∀(i:Nat) (v v':Value),cs[i]?=some v→cs'[i]?=some v'→aG m v v'):aG m (.tuple cs) (.tuple cs')
variable {m m':Mp}
def si.mono (hm:m.le m') {f g:Fn} (h:si m f g):si m' f g:=by
 cases f<;>cases g<;>simp_all [si]
 obtain⟨s,h⟩:=h;exact⟨s,(hm _ _ h).1⟩
variable {v v':Value}
def aG.mono (hm:m.le m') (h:aG m v v'):aG m' v v':=by
 induction h with
 | bA h=>exact .bA h
 | ptr h=>exact .ptr (hm _ _ h).1
 | slice h a b c d e=>exact .slice (hm _ _ h).1 a b c d (by rw[(hm _ _ h).2];exact e)
 | lost=>exact .lost
 | tok hc h=>exact .tok hc (h.imp id fun⟨r,s,h1,h2⟩=>⟨r,s,(hm _ _ h1).1,h2⟩)
 | map h=>exact .map (hm _ _ h).1
 | func hf hx hy _ _ i1 i2=>exact .func (hf.mono hm) hx hy i1 i2
 | agg hs _ ih=>exact .agg hs ih
 | tuple hs _ ih=>exact .tuple hs ih
def aG.cu (h:aG m v v') (hv:Id.bA v=true):v'=v:=by
 cases h<;>simp_all [Id.bA]
def aG.undef (m:Mp):aG m undef undef:=.tuple rfl (by simp)
def bw (m:Mp) (l l':List Value):Prop:=l.length=l'.length ∧ ∀(i:Nat) (v v':Value),l[i]?=some v→l'[i]?=some v'→aG m v v'
def bw.nil (m:Mp):bw m [] []:=⟨rfl,by simp⟩
variable {l l':List Value}
def bw.cons (h:aG m v v') (t:bw m l l'):bw m (v :: l) (v' :: l'):=by
 refine⟨by simp[t.1],fun i x x' hx hx'=>?_⟩
 cases i with
 | zero=>simp at hx hx';subst hx;subst hx';exact h
 | succ i=>simp at hx hx';exact t.2 i x x' hx hx'
variable {a' a:List Value}
theorem bw.append {b b':List Value} (h:bw m a a') (k:bw m b b'):bw m (a ++ b) (a' ++ b'):=by
 refine⟨by simp[h.1,k.1],fun i v v' hv hv'=>?_⟩
 by_cases hi:i<a.length
 ·rw[List.getElem?_append_left hi] at hv;rw[List.getElem?_append_left (h.1▸hi)] at hv'
  exact h.2 i v v' hv hv'
 ·rw[List.getElem?_append_right (by omega)] at hv;rw[List.getElem?_append_right (by have:=h.1;omega)] at hv'
  rw[←h.1] at hv'
  exact k.2 _ v v' hv hv'
def bw.take (h:bw m a a') (n:Nat):bw m (a.take n) (a'.take n):=by
 refine⟨by simp[h.1],fun i v v' hv hv'=>?_⟩
 rw[List.getElem?_take] at hv hv'
 by_cases hi:i<n
 ·simp only[hi,if_true] at hv hv';exact h.2 i v v' hv hv'
 ·simp[hi] at hv
def bw.drop (h:bw m a a') (n:Nat):bw m (a.drop n) (a'.drop n):=by
 refine⟨by simp[h.1],fun i v v' hv hv'=>?_⟩
 rw[List.getElem?_drop] at hv hv'
 exact h.2 _ v v' hv hv'
def bw.get (h:bw m a a') {i:Nat} (hv:a[i]?=some v) : ∃v',a'[i]?=some v'∧aG m v v':=by
 have hi:i<a.length:=by
  rcases Nat.lt_or_ge i a.length with h|h
  ·exact h
  ·rw[List.getElem?_eq_none h] at hv;cases hv
 have hi':i<a'.length:=h.1▸hi
 exact⟨a'[i],List.getElem?_eq_getElem hi',h.2 i v _ hv (List.getElem?_eq_getElem hi')⟩
def bw.bA (h:bw m l l') (hs:l.all Id.bA=true):l'=l:=by
 apply List.ext_getElem? fun i=>?_
 by_cases hi:i<l.length
 ·obtain⟨v',h1,h2⟩:=h.get (List.getElem?_eq_getElem hi)
  rw[h1,List.getElem?_eq_getElem hi]
  rw[h2.cu (by have:=List.all_eq_true.1 hs;exact this _ (List.getElem_mem hi))]
 ·rw[List.getElem?_eq_none (show l'.length≤i from h.1▸Nat.le_of_not_lt hi),List.getElem?_eq_none (Nat.le_of_not_lt hi)]
def bw.Uy (hs:l.all Id.bA=true):bw m l l:=by
 refine⟨rfl,fun i v v' a b=>?_⟩
 rw[a] at b;cases b
 exact .bA (List.all_eq_true.1 hs _ (List.mem_of_getElem? a))
variable {cs' cs:Array Value}
def aG.iV (h:bw m cs.toList cs'.toList):aG m (.agg cs) (.agg cs') :=
 .agg (by simpa using h.1) (fun i v v' a b=>h.2 i v v' (by simpa using a) (by simpa using b))
def aG.fI (h:bw m cs.toList cs'.toList):aG m (.tuple cs) (.tuple cs') :=
 .tuple (by simpa using h.1) (fun i v v' a b=>h.2 i v v' (by simpa using a) (by simpa using b))
def aG.qa (h:aG m (.agg cs) v') : ∃cs',v'=.agg cs'∧bw m cs.toList cs'.toList:=by
 cases h with
 | bA h=>simp[Id.bA] at h
 | agg hs h=>exact⟨_,rfl,by simpa using hs,fun i v v' a b=>h i v v' (by simpa using a) (by simpa using b)⟩
def aG.oE (h:aG m (.tuple cs) v') : ∃cs',v'=.tuple cs'∧bw m cs.toList cs'.toList:=by
 cases h with
 | bA h=>simp[Id.bA] at h
 | tuple hs h=>exact⟨_,rfl,by simpa using hs,fun i v v' a b=>h i v v' (by simpa using a) (by simpa using b)⟩
variable {xs:Array Value}{fn:Fn}{ys:Array Value}
def aG.vV (h:aG m (.func fn xs ys) v') :
  ∃fn' xs' ys',v'=.func fn' xs' ys'∧si m fn fn'∧bw m xs.toList xs'.toList∧bw m ys.toList ys'.toList:=by
 cases h with
 | bA h=>simp[Id.bA] at h
 | func hf hx hy h1 h2 =>
  exact⟨_,_,_,rfl,hf,⟨by simpa using hx,fun i v v' a b=>h1 i v v' (by simpa using a) (by simpa using b)⟩,⟨by simpa using hy,fun i v v' a b=>h2 i v v' (by simpa using a) (by simpa using b)⟩⟩
def aG.Fo {fn':Fn} {xs' ys':Array Value} (hf:si m fn fn') (h1:bw m xs.toList xs'.toList) (h2:bw m ys.toList ys'.toList) :
  aG m (.func fn xs ys) (.func fn' xs' ys') :=
 .func hf (by simpa using h1.1) (by simpa using h2.1) (fun i v v' a b=>h1.2 i v v' (by simpa using a) (by simpa using b)) (fun i v v' a b=>h2.2 i v v' (by simpa using a) (by simpa using b))
def aG.kH {b o:Nat} (h:aG m (.pointer (some ⟨b,o,none⟩)) v') : ∃r s,m b=some (r,s)∧v'=.pointer (some ⟨r,s+o,none⟩):=by
 cases h with
 | bA h=>simp[Id.bA] at h
 | ptr h=>exact⟨_,_,h,rfl⟩
def aG.di (h:aG m v v') (hv:plain v=true):v'=v:=by
 by_cases ha : ∃cs,v=.agg cs
 ·obtain⟨cs,rfl⟩:=ha
  obtain⟨cs',rfl,hl⟩:=h.qa
  have:cs'.toList=cs.toList:=hl.bA (by simpa [plain] using hv)
  rw[Array.toList_inj.1 this]
 ·exact h.cu (by unfold plain at hv;split at hv<;>simp_all)
def aG.bV (hv:plain v=true):aG m v v:=by
 by_cases ha : ∃cs,v=.agg cs
 ·obtain⟨cs,rfl⟩:=ha
  exact aG.iV (.Uy (by simpa [plain] using hv))
 ·exact .bA (by unfold plain at hv;split at hv<;>simp_all)
def aG.cells (h:aG m v v'):bw m v.cells.toList v'.cells.toList:=by
 by_cases ha : ∃cs,v=.agg cs
 ·obtain⟨cs,rfl⟩:=ha
  obtain⟨cs',rfl,hl⟩:=h.qa
  exact hl
 ·have e1:v.cells = #[v]:=by cases v<;>simp_all [Value.cells]
  have e2:v'.cells = #[v']:=by cases h<;>simp_all [Value.cells]
  rw[e1,e2]
  exact .cons h (.nil m)
def dP (m:Mp) (fr:Fr) (tmps:Array Value):Prop:=∀t v,ab fr t=some v → ∃v',tmps[t]?=some v'∧aG m v v'
structure mf (m:Mp) (l:ir) (l':Loop):Prop where
 state:l'.state=l.state
 pending:l'.pending=l.pending
 fn:l'.fn=l.fn
 tmps:dP m l.fr l'.tmps
 nt:l.nt≤l'.tmps.size
 params:l'.params.toList=l.params
 assign:l'.assign=l.assign
 body:l'.body=l.body
def TR (m:Mp) (e:Value×Value) (e':MapEntry):Prop:=e'.key=e.1∧plain e.1=true∧aG m e.2 e'.val
def rX (m:Mp) (es:List (Value×Value)) (c:Array MapEntry):Prop:=es.length=c.size ∧ ∀(i:Nat) (e:Value×Value) (e':MapEntry),es[i]?=some e→c[i]?=some e'→TR m e e'∧e'.born=i
def nV (m:Mp) (cs:List Value) (c:Array Value) (s:Nat):Prop:=s+cs.length≤c.size ∧ ∀(i:Nat) (v:Value),cs[i]?=some v → ∃v',c[s+i]?=some v'∧aG m v v'
def rQ (x:Nat):List Nat:=if h:x=0 then [] else x % 18446744073709551616 :: rQ (x / 18446744073709551616)
 termination_by x
 decreasing_by exact Nat.div_lt_self (Nat.pos_of_ne_zero h) (by decide)
def fS (x:Nat):List Value:=(rQ x).map fun d:Nat=>Value.int .u64 (d:Int)
def fY (m:Mp) (w:World) (r s:Nat) (z:Nat×Nat):bI→Prop
 | .cells cs e _ => ∃c el,w.heap[r]?=some (.cells c el)∧nV m cs c s∧z.1=e∧z.2≤c.size
 | .map es=>s=0 ∧ ∃c,w.heap[r]?=some (.map c es.length)∧rX m es c
 | .loop l=>s=0 ∧ ∃l',w.heap[r]?=some (.loop l')∧mf m l l'
 | .iter k since seen last=>s=0 ∧ ∃rm,w.heap[r]?=some (.mapIter (some rm) since seen.toArray last)∧m k=some (rm,0)
 | .num x=>x=0 ∨ ∃c el,w.heap[r]?=some (.cells c el)∧nV m (fS x) c s
 | .dead=>True
def bI.alive:bI→Bool
 | .dead=>false
 | _=>true
def bI.isNum:bI→Bool
 | .num _=>true
 | _=>false
def Kin (h:IH) (k k':Nat):Prop:=∃cs t cs' t' f st,h.ext.get k=some (.cells cs t (some f))∧h.ext.get k'=some (.cells cs' t' (some f))∧h.bP.get f=some st∧k∈st∧k'∈st
structure Rel (B:Nat) (w0:World) (m:Mp) (h:IH) (w:World):Prop where
 below:Below B w0 w
 size:B≤w.heap.size
 base : ∀b cs,h.base b=some cs → ∃r s,m (2*b+1)=some (r,s)∧r<B ∧ ∃c el fz,w.heap[r]?=some (.cells c el fz)∧nV m cs c s
 odd : ∀b,b<4294967296→m (2*b+1)=some (b,0)
 even : ∀k r s,m (2*k)=some (r,s)→B≤r∧r<w.heap.size
 dom : ∀k,h.n≤k→h.ext.get k=none
 obj : ∀k o r s,h.ext.get k=some o→m (2*k)=some (r,s)→fY m w r s (m.ez (2*k)) o
 own : ∀k k' o o' r s s',k≠k'→h.ext.get k=some o→h.ext.get k'=some o'→o.alive=true→o'.alive=true→m (2*k)=some (r,s)→m (2*k')=some (r,s')→Kin h k k'∨(o.isNum=true∧o'.isNum=true)
 du : ∀f st,h.bP.get f=some st→f<h.n∧(∀x∈st,x<h.n)∧st.Nodup
 fam : ∀k cs t f,h.ext.get k=some (.cells cs t (some f)) → ∃st,h.bP.get f=some st∧k∈st
 long : ∀f st,h.bP.get f=some st→st.Pairwise fun x y => ∀cs t g cs' t' g' r s s',h.ext.get x=some (.cells cs t g)→h.ext.get y=some (.cells cs' t' g') →
  m (2*x)=some (r,s)→m (2*y)=some (r,s')→s'+cs'.length≤s+cs.length
 whole : ∀f st x y,h.bP.get f=some st→x∈st→y∈st→(m (2*x)).isSome=true→(m (2*y)).isSome=true
structure Step (m:Mp) (h:IH) (w:World) (m':Mp) (h':IH) (w':World):Prop where
 le:m.le m'
 new : ∀b,m' b≠m b → ∃k,b=2*k∧h.n≤k∧k<h'.n
 n:h.n≤h'.n
 base:h'.base=h.base
 frame : ∀r,r<w.heap.size→(∀k s,k<h.n→m (2*k)≠some (r,s))→w'.heap[r]?=w.heap[r]?
 idle : ∀k,k<h.n→m (2*k)=none→h'.ext.get k=h.ext.get k
 size:w.heap.size≤w'.heap.size
 img : ∀k r s,h.n≤k→k<h'.n→m' (2*k)=some (r,s)→w.heap.size≤r ∨ ∃k0 s0,k0<h.n∧m (2*k0)=some (r,s0)
 nJ : ∀k,k<h.n→m (2*k)=none→(∀f st,h.bP.get f=some st→k∉st) → ∀f st,h'.bP.get f=some st→k∉st
def eH (m:Mp) (a b:Nat):Prop:=∀k,a≤k→k<b→m (2*k)=none
def Step.refl (m:Mp) (h:IH) (w:World):Step m h w m h w :=
 ⟨Mp.le_refl m,fun _ e=>absurd rfl e,Nat.le_refl _,rfl,fun _ _ _=>rfl,fun _ _ _=>rfl,Nat.le_refl _,fun k r s a b=>by omega,fun _ _ _ h=>h⟩
variable {h:IH}{w:World}
def Step.old {h':IH} {w':World} (s:Step m h w m' h' w') {k:Nat} (hk:k<h.n):m' (2*k)=m (2*k):=by
 apply Classical.byContradiction;intro hne
 obtain⟨k',e,a,_⟩:=s.new _ hne
 omega
def Step.trans {m1 m2:Mp} {h1 h2:IH} {w1 w2:World} (s:Step m h w m1 h1 w1) (t:Step m1 h1 w1 m2 h2 w2):Step m h w m2 h2 w2:=by
 refine⟨Mp.le_trans s.le t.le,fun b hb=>?_,Nat.le_trans s.n t.n,t.base.trans s.base,fun r hr hk=>?_,fun k hk hm=>?_,Nat.le_trans s.size t.size,fun k r x hk1 hk2 hx=>?_,fun k hk hm hf=>t.nJ k (Nat.lt_of_lt_of_le hk s.n) (by rw[s.old hk,hm]) (s.nJ k hk hm hf)⟩
 ·by_cases h12:m2 b=m1 b
  ·rw[h12] at hb
   obtain⟨k,e,a,c⟩:=s.new b hb
   exact⟨k,e,a,Nat.lt_of_lt_of_le c t.n⟩
  ·obtain⟨k,e,a,c⟩:=t.new b h12
   exact⟨k,e,Nat.le_trans s.n a,c⟩
 ·rw[t.frame r (Nat.lt_of_lt_of_le hr s.size) ?_,s.frame r hr hk]
  intro k x hk1 hm1
  by_cases hkn:k<h.n
  ·exact hk k x hkn (by rw[←s.old hkn];exact hm1)
  ·rcases s.img k r x (by omega) hk1 hm1 with e|⟨k0,s0,e1,e2⟩
   ·omega
   ·exact hk k0 s0 e1 e2
 ·have hm1:m1 (2*k)=none:=by rw[s.old hk,hm]
  rw[t.idle k (Nat.lt_of_lt_of_le hk s.n) hm1,s.idle k hk hm]
 ·by_cases hkn:k<h1.n
  ·rw[t.old hkn] at hx
   exact s.img k r x hk1 hkn hx
  ·rcases t.img k r x (by omega) hk2 hx with e|⟨k0,s0,e1,e2⟩
   ·exact .inl (Nat.le_trans s.size e)
   ·by_cases hk0:k0<h.n
    ·rw[s.old hk0] at e2;exact .inr ⟨k0,s0,hk0,e2⟩
    ·exact s.img k0 r s0 (by omega) e1 e2
end Go.Id
