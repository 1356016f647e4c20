/-
  The ideal machine: an evaluator of the model's code over a memory without chance. Its blocks have numbers of their own (2k+1: the k-th block of the world before the call, read only; 2k: the k-th new one); an append always makes a new block; a region is evaluated in the order of its text. Definitions alone; that the model's machine follows it is proved in the texts behind this one.
-/
import GoSem.Step
import Derived.Calls
set_option linter.unusedVariables false
set_option linter.unusedSimpArgs false
set_option linter.defProp false
set_option linter.deprecated false
namespace Go.Id
open Go
def bP:Value→Bool
 | .bool _|.int _ _|.string _|.nilFunc|.nilIface|.pointer none|.map none=>true
 | .slice none n c=>n == 0 && c == 0
 | _=>false
def plain:Value→Bool
 | .agg cs=>cs.all bP
 | v=>bP v
abbrev Fr:=List (Nat×Value)
def ah:Fr→Nat→Option Value
 | [],_=>none
 | (s,v) :: r,t=>bif s == t then some v else ah r t
def nU (nt:Nat) (fr:Fr) (dst:Option Tmp) (v:Value):Option Fr :=
 match dst with
 | none=>some fr
 | some d=>bif Nat.blt d nt then some ((d,v) :: fr) else none
def ft (fr:Fr):List Nat→Fr
 | [] => []
 | t :: l=>match ah fr t with
  | some v=>(t,v) :: ft fr l
  | none=>ft fr l
def jc:Nat→List Value→Fr
 | _,[] => []
 | i,v :: l=>(i,v) :: jc (i+1) l
def opd (fr:Fr):Operand→Option Value
 | .tmp t=>ah fr t
 | .const v=>bif plain v then some v else none
 | .global g=>bif Nat.blt g 4294967296 then some (.pointer (some ⟨2*g+1,0,none⟩)) else none
 | .func f=>some (.func (.func f) #[] #[])
def jV (fr:Fr):List Operand→Option (List Value)
 | []=>some []
 | x :: l=>match opd fr x,jV fr l with
  | some v,some vs=>some (v :: vs)
  | _,_=>none
inductive Tr (α:Type) where
 | leaf:Tr α
 | node:Tr α→Option α→Tr α→Tr α
namespace Tr
def get {α:Type}:Tr α→Nat→Option α
 | .leaf,_=>none
 | .node l v r,n=>bif n == 0 then v else bif n % 2 == 1 then l.get (n / 2) else r.get ((n - 1) / 2)
def one {α:Type}:Nat→Nat→α→Tr α
 | 0,_,x=>.node .leaf (some x) .leaf
 | f+1,n,x=>bif n == 0 then .node .leaf (some x) .leaf else bif n % 2 == 1 then .node (one f (n / 2) x) none .leaf else .node .leaf none (one f ((n - 1) / 2) x)
def set {α:Type}:Tr α→Nat→α→Tr α
 | .leaf,n,x=>one n n x
 | .node l v r,n,x=>bif n == 0 then .node l (some x) r else bif n % 2 == 1 then .node (l.set (n / 2) x) v r else .node l v (r.set ((n - 1) / 2) x)
end Tr
structure fa where
 state:LoopState
 pending:Option Code
 fn:FuncId
 nt:Nat
 fr:Fr
 params:List Nat
 assign:Code
 body:Code
inductive bB where
 | cells (cs:List Value) (e:Nat) (fam:Option Nat)      -- e: the cells of an element, where it was made by make, a literal or append
 | map (es:List (Value×Value))
 | loop (r:fa)
 | iter (k since:Nat) (seen:List Nat) (last:Nat)        -- an iterator over map k: the entries that have been, by their places
 | num (x:Nat)        -- the words of a number; T7 writes them
 | dead
structure IH where
 base:Nat→Option (List Value)
 n:Nat
 ext:Tr bB
 cM:Tr (List Nat)
namespace IH
def new (h:IH) (o:bB):IH:={ h with n:=h.n+1,ext:=h.ext.set h.n o }
def row (h:IH) (b:Nat):Option (List Value) :=
 bif b % 2 == 1 then h.base (b / 2) else match h.ext.get (b / 2) with
  | some (.cells cs _ _)=>some cs
  | _=>none
def rd (h:IH) (b o n:Nat):Option (List Value) :=
 match h.row b with
 | some cs=>bif Nat.ble (o+n) cs.length then some ((cs.drop o).take n) else none
 | none=>none
def fh (e:Tr bB):List Nat→Tr bB
 | []=>e
 | k :: l=>fh (e.set k .dead) l
def aD (cs:List Value) (o:Nat) (vs:List Value):List Value:=cs.take o ++ (vs ++ cs.drop (o+vs.length))
def wr (h:IH) (b o:Nat) (vs:List Value):Option IH :=
 bif b % 2 == 1 then none else match h.ext.get (b / 2) with
  | some (.cells cs t fam) =>
   bif Nat.ble (o+vs.length) cs.length then
    match fam with
    | none=>some { h with ext:=h.ext.set (b / 2) (.cells (aD cs o vs) t none) }
    | some f=>match h.cM.get f with
     | some st=>some { h with ext:=(fh h.ext (st.filter (· != b / 2))).set (b / 2) (.cells (aD cs o vs) t none) }
     | none=>none
   else none
  | _=>none
end IH
def ar (P:Program) {α:Type}:Sem α→Option α
 | .pure a=>some a
 | .program k=>ar P (k P)
 | _=>none
def cG (P:Program) (s:Sem Value):Option Value :=
 match ar P s with
 | some v=>bif plain v then some v else none
 | none=>none
def aY (P:Program) (t:TypeId):Option Bool:=(P.underlying t).map fun d=>match d with|.struct _|.array _ _=>true|_=>false
def aP (P:Program) (t:TypeId):Option Nat:=(P.info? t).map (·.size)
def jD (P:Program) (t:TypeId):Option Nat:=(P.info? t).map (·.bytes)
def nF (P:Program) (t:TypeId):Option Value:=(P.info? t).bind (·.zero)
def aE (P:Program) (t:TypeId):Option (List Value):=match nF P t with
 | some z=>bif plain z then some z.cells.toList else none
 | none=>none
def asAddr:Value→Option (Nat×Nat)
 | .pointer (some ⟨b,o,none⟩)=>some (b,o)
 | _=>none
def aG:Value→Bool
 | .agg _=>false
 | .tuple _=>false
 | _=>true
def ptr (b o:Nat):Value:=.pointer (some ⟨b,o,none⟩)
def load (P:Program) (h:IH) (t:TypeId) (a:Value):Option Value :=
 match asAddr a,aY P t,aP P t with
 | some (b,o),some true,some n=>(h.rd b o n).map fun cs=>.agg cs.toArray
 | some (b,o),some false,_=>(h.rd b o 1).bind (·.head?)
 | _,_,_=>none
def store (P:Program) (h:IH) (t:TypeId) (a v:Value):Option IH :=
 match asAddr a,aP P t with
 | some (b,o),some n=>bif v.cells.size == n && v.cells.toList.all aG then h.wr b o v.cells.toList else none
 | _,_=>none
def aX:Nat:=1099511627776
def mN:Nat:=16777216
def bA:Nat→List Value→List Value
 | 0,_ => []
 | n+1,z=>z ++ bA n z
def cz (place:Nat→Option (Nat×Nat)) (cells:List Value):List (Nat×Value)→Option (List Value)
 | []=>some cells
 | (i,v) :: rest=>match place i with
  | none=>none
  | some (o,n)=>bif v.cells.size == n && Nat.ble (o+n) cells.length then cz place (IH.aD cells o v.cells.toList) rest else none
def idxOf:Value→Option Int
 | .int _ n=>some n
 | _=>none
def jX (v:Value) (most:Nat):Option Nat :=
 match v with
 | .int _ n=>match n with
  | .ofNat m=>bif Nat.ble m most then some m else none
  | .negSucc _=>none
 | _=>none
def Lg (hi:Option Value) (len c:Nat):Option Nat:=match hi with
 | none=>some len
 | some v=>jX v c
def Dd (lo:Option Value) (h:Nat):Option Nat:=match lo with
 | none=>some 0
 | some v=>jX v h
def fx (len c:Nat) (lo hi mx:Option Value):Option (Nat×Nat×Option Nat) :=
 match mx with
 | none=>match Lg hi len c with
  | none=>none
  | some h=>match Dd lo h with
   | none=>none
   | some l=>some (l,h,none)
 | some mv=>match jX mv c with
  | none=>none
  | some m=>match hi with
   | none=>none
   | some hv=>match jX hv m with
    | none=>none
    | some h=>match Dd lo h with
     | none=>none
     | some l=>some (l,h,some m)
def du (size:Nat) (room:Bool) (x:Value) (lo hi mx:Option Value):Option Value :=
 match x with
 | .slice none n c=>bif n == 0 && c == 0 then (match fx 0 0 lo hi mx with|some _=>some (.slice none 0 0)|none=>none) else none
 | .slice (some ⟨b,o,none⟩) len k =>
  match fx len (k / 2) lo hi mx with
  | none=>none
  | some (l,h,om) =>
   bif k == 0 then some (.slice (some ⟨b,o,none⟩) 0 0) else match om with
   | none =>
    bif l == k / 2 then (bif k % 2 == 1 then some (.slice (some ⟨b,o,none⟩) 0 1) else some (.slice (some ⟨b,o,none⟩) 0 0))
    else bif k % 2 == 1 || room then some (.slice (some ⟨b,o+l*size,none⟩) (h - l) (k - 2*l)) else none
   | some m =>
    bif l == m then some (.slice (some ⟨b,o,none⟩) 0 1)
    else some (.slice (some ⟨b,o+l*size,none⟩) (h - l) (2*(m - l)+1))
 | _=>none
def dr (h:IH) (size n:Nat) (x:Value):Option (List Value) :=
 match x with
 | .slice none _ _=>some []
 | .slice (some ⟨b,o,none⟩) len _=>bif Nat.ble n len then (bif n*size == 0 then some [] else h.rd b o (n*size)) else none
 | _=>none
def lenOf:Value→Option Nat
 | .slice _ n _=>some n
 | _=>none
def grown (h:IH) (k f:Nat) (cs:List Value) (t:Nat) (cc below:List Nat) (cs':List Value) (t':Nat):IH :=
 { h with n:=h.n+1,ext:=((IH.fh h.ext cc).set k (.cells cs t (some f))).set h.n (.cells cs' t' (some f)),cM:=h.cM.set f (h.n :: k :: below) }
def append (P:Program) (h:IH) (st:TypeId) (s x:Value):Option (Value×IH) :=
 match P.underlying st with
 | some (.slice elem)=>match aP P elem,jD P elem,aE P elem,lenOf x with
  | some size,some bytes,some zs,some n =>
   bif n == 0 then (match s with|.slice none a c=>bif a == 0 && c == 0 then some (s,h) else none|.slice (some ⟨_,_,none⟩) _ _=>some (s,h)|_=>none) else
   bif size == 0 || (!(Nat.ble bytes 65536) || !(zs.length == size)) then none else
   match dr h size n x with
   | none=>none
   | some new=>bif !(new.all aG) then none else match s with
    | .slice none a c=>bif a == 0 && c == 0 && Nat.ble (n*(bytes+1)) aX then some (.slice (some ⟨2*h.n,0,none⟩) n (2*n),h.new (.cells new size none)) else none
    | .slice (some ⟨b,o,none⟩) len k =>
     bif !(Nat.ble ((len+n)*(bytes+1)) aX) then none else
     bif Nat.ble (len+n) (k / 2) then (h.wr b (o+len*size) new).map fun h=>(.slice (some ⟨b,o,none⟩) (len+n) k,h)
     else bif k % 2 == 1 then
      match dr h size len s with
      | none=>none
      | some old=>some (.slice (some ⟨2*h.n,0,none⟩) (len+n) (2*(len+n)),h.new (.cells (old ++ new) size none))
     else bif len == k / 2 && Nat.blt 0 len && b % 2 == 0 then
      match h.ext.get (b / 2) with
      | some (.cells cs t fam) =>
       bif o+len*size == cs.length && t == size then
        match fam with
        | none=>some (.slice (some ⟨2*h.n,0,none⟩) (len+n) (2*(len+n)),grown h (b / 2) h.n cs t [] [] (cs.drop o ++ new) size)
        | some f=>match h.cM.get f with
         | none=>none
         | some stk=>some (.slice (some ⟨2*h.n,0,none⟩) (len+n) (2*(len+n)),
           grown h (b / 2) f cs t (stk.takeWhile (· != b / 2)) ((stk.dropWhile (· != b / 2)).drop 1) (cs.drop o ++ new) size)
       else none
      | _=>none
     else none
    | _=>none
  | _,_,_,_=>none
 | _=>none
def iW (P:Program) (t:TypeId) (f:Nat):Option Field :=
 match P.underlying t with
 | some (.struct fs)=>fs[f]?
 | _=>none
def partOf (P:Program) (t:TypeId) (cs:Array Value) (off:Nat):Option Value :=
 match aY P t,aP P t with
 | some true,some n=>some (.agg (cs.extract off (off+n)))
 | some false,_=>cs[off]?
 | _,_=>none
def qM:TypeDesc→Value→Value→Option Bool
 | .slice _,.slice none _ _,.slice none _ _=>some true
 | .slice _,.slice none _ _,.slice (some ⟨_,_,none⟩) _ _=>some false
 | .slice _,.slice (some ⟨_,_,none⟩) _ _,.slice none _ _=>some false
 | .map _ _,.map none,.map none=>some true
 | .map _ _,.map none,.map (some _)=>some false
 | .map _ _,.map (some _),.map none=>some false
 | .func _ _ _,.nilFunc,.nilFunc=>some true
 | .func _ _ _,.nilFunc,.func _ _ _=>some false
 | .func _ _ _,.func _ _ _,.nilFunc=>some false
 | .pointer _,.pointer none,.pointer none=>some true
 | .pointer _,.pointer none,.pointer (some _)=>some false
 | .pointer _,.pointer (some _),.pointer none=>some false
 | _,_,_=>none
def sh (P:Program) (t:TypeId) (x y:Value):Option Bool :=
 match P.underlying t with
 | some d=>qM d x y
 | none=>none
def binop (P:Program) (op:BinOp) (t:TypeId) (ox oy:Operand) (x y:Value):Option Value :=
 bif plain x && plain y then cG P (do eqGuard op t ox oy x y;Go.binOp op t x y)
 else match op with
  | .eql=>(sh P t x y).map .bool
  | .neq=>(sh P t x y).map fun b=>.bool !b
  | _=>none
def placeOf (P:Program) (t:TypeId) (i:Nat):Option (Nat×Nat) :=
 match P.underlying t with
 | some (.struct fs)=>match fs[i]? with
  | some f=>(aP P f.type).map fun n=>(f.offset,n)
  | none=>none
 | some (.array _ e)=>(aP P e).map fun n=>(i*n,n)
 | _=>none
def cu (P:Program) (t:TypeId):Bool :=
 match P.underlying t with
 | some (.struct fs)=>fs.all fun f=>(P.info? f.type).isSome
 | some (.array _ e)=>(P.info? e).isSome
 | _=>false
def partsOf (fr:Fr):List (Nat×Operand)→Option (List (Nat×Value))
 | []=>some []
 | (i,x) :: l=>match opd fr x,partsOf fr l with
  | some v,some vs=>some ((i,v) :: vs)
  | _,_=>none
def df (es:List (Value×Value)):List MapEntry:=es.map fun e => { key:=e.1,val:=.nilIface,born:=0 }
def mapOf (h:IH) (k:Nat):Option (List (Value×Value)) :=
 bif k % 2 == 1 then none else match h.ext.get (k / 2) with
 | some (.map es)=>some es
 | _=>none
def sG (P:Program) (kt:TypeId) (k:Value) (es:List (Value×Value)):Option (Option Nat) :=
 bif plain k then
  match ar P (Instr.checkKey es.isEmpty 10000 kt k),ar P (Instr.findKey kt k (df es)) with
  | some (),some r=>some (r.map (·.1))
  | _,_=>none
 else none
def entriesOf (h:IH):Value→Option (List (Value×Value))
 | .map none=>some []
 | .map (some r)=>mapOf h r
 | _=>none
def EU:Option Unit→Bool
 | some _=>true
 | none=>false
def lookup (P:Program) (h:IH) (mt:TypeId) (m k:Value) (ok:Bool):Option Value :=
 match P.underlying mt with
 | some (.map kt et) =>
  match entriesOf h m with
  | none=>none
  | some es=>match sG P kt k es with
   | none=>none
   | some none=>match nF P et with
    | some z=>bif plain z then some (bif ok then .tuple #[z,.bool false] else z) else none
    | none=>none
   | some (some i)=>(es[i]?).map fun e=>bif ok then .tuple #[e.2,.bool true] else e.2
 | _=>none
def mapUpdate (P:Program) (h:IH) (mt:TypeId) (m k v:Value):Option IH :=
 match P.underlying mt,m with
 | some (.map kt _),.map (some r) =>
  match mapOf h r with
  | none=>none
  | some es =>
   bif EU (ar P (Instr.checkKey false 10000 kt k)) then
   match sG P kt k es with
   | none=>none
   | some none=>some { h with ext:=h.ext.set (r / 2) (.map (es ++ [(k,v)])) }
   | some (some i)=>match es[i]? with
    | some e=>bif Instr.sameBits 10000 e.1 k then some { h with ext:=h.ext.set (r / 2) (.map (es.set i (k,v))) } else none
    | none=>none
   else none
 | _,_=>none
def makeSlice (P:Program) (h:IH) (t:TypeId) (l c:Value):Option (Value×IH) :=
 match P.underlying t with
 | some (.slice e)=>match jX l aX,jX c aX,aP P e,jD P e,aE P e with
  | some l,some c,some n,some by_,some z =>
   bif Nat.ble l c && Nat.ble (c*(by_+1)) aX && z.length == n then
    some (.slice (some ⟨2*h.n,0,none⟩) l (2*c+1),h.new (.cells (bA c z) n none))
   else none
  | _,_,_,_,_=>none
 | _=>none
def buildSlice (P:Program) (h:IH) (t:TypeId) (len:Nat) (parts:List (Nat×Value)):Option (Value×IH) :=
 match P.underlying t with
 | some (.slice e)=>match aP P e,aE P e with
  | some n,some z=>bif Nat.ble (len*n) mN && z.length == n then
    match cz (fun i=>some (i*n,n)) (bA len z) parts with
    | some cells=>some (.slice (some ⟨2*h.n,0,none⟩) len (2*len+1),h.new (.cells cells n none))
    | none=>none
   else none
  | _,_=>none
 | _=>none
def indexAddr (P:Program) (t:TypeId) (x i:Value):Option Value :=
 match P.underlying t,x,idxOf i with
 | some (.array n e),.pointer (some ⟨b,o,none⟩),some i=>match aP P e,i with
  | some size,.ofNat j=>bif Nat.blt j n then some (.pointer (some ⟨b,o+j*size,none⟩)) else none
  | _,_=>none
 | some (.slice e),.slice (some ⟨b,o,none⟩) n _,some i=>match aP P e,i with
  | some size,.ofNat j=>bif Nat.blt j n then some (.pointer (some ⟨b,o+j*size,none⟩)) else none
  | _,_=>none
 | _,_,_=>none
def roomy (h:IH) (size:Nat) (x:Value):Bool :=
 match x with
 | .slice (some ⟨b,_,_⟩) _ _=>b % 2 == 0 && (match h.ext.get (b / 2) with
  | some (.cells _ e _)=>e == size
  | _=>false)
 | _=>false
def di (P:Program) (h:IH) (t:TypeId) (x:Value) (lo hi mx:Option Value):Option Value :=
 match P.underlying t with
 | some (.slice e)=>match aP P e with
  | some size=>du size (roomy h size x) x lo hi mx
  | none=>none
 | some (.array n e)=>match aP P e,asAddr x with
  | some size,some (b,o)=>du size false (.slice (some ⟨b,o,none⟩) n (2*n+1)) lo hi mx
  | _,_=>none
 | some (.pointer arr)=>match P.underlying arr with
  | some (.array n e)=>match aP P e,asAddr x with
   | some size,some (b,o)=>du size false (.slice (some ⟨b,o,none⟩) n (2*n+1)) lo hi mx
   | _,_=>none
  | _=>none
 | some .string=>bif plain x && (lo.all plain && hi.all plain && mx.all plain) then cG P (Instr.slice t x lo hi mx) else none
 | _=>none
def fm (fr:Fr):Option Operand→Option (Option Value)
 | none=>some none
 | some x=>(opd fr x).map some
def qX (P:Program) (h:IH) (dt:TypeId) (d s:Value):Option (Value×IH) :=
 match P.underlying dt,lenOf d,lenOf s with
 | some (.slice e),some dn,some sn=>match aP P e with
  | some size =>
   let n:=Nat.min sn dn
   match dr h size n s with
   | none=>none
   | some cs=>match d with
    | .slice none _ _=>some (.int .i64 n,h)
    | .slice (some ⟨b,o,none⟩) _ _=>bif cs.isEmpty then some (.int .i64 n,h) else bif !(cs.all aG) then none else (h.wr b o cs).map fun h=>(.int .i64 n,h)
    | _=>none
  | none=>none
 | _,_,_=>none
def sY (P:Program) (h:IH) (t:TypeId) (x:Value):Option (Value×IH) :=
 match P.underlying t,x with
 | some (.slice _),.slice none _ _=>some (.tuple #[],h)
 | some (.slice e),.slice (some ⟨b,o,none⟩) n _=>bif n == 0 then some (.tuple #[],h) else
  match aE P e with
  | some z=>bif z.isEmpty || !(z.all aG) then none else (h.wr b o (bA n z)).map fun h=>(.tuple #[],h)
  | none=>none
 | _,_=>none
def QO (P:Program) (t:TypeId) (x:Value):Option Value :=
 match P.underlying t,x with
 | some (.slice _),.slice none _ _=>some (.int .i64 0)
 | some (.slice _),.slice (some ⟨_,_,none⟩) _ k=>bif k % 2 == 1 then some (.int .i64 ((k / 2:Nat):Int)) else none
 | _,_=>none
def nT (P:Program) (h:IH) (t:TypeId) (x:Value):Option Value :=
 match P.underlying t,x with
 | some .string,.string s=>some (.int .i64 s.size)
 | some (.array n _),_=>some (.int .i64 n)
 | some (.pointer a),_=>match P.underlying a with
  | some (.array n _)=>some (.int .i64 n)
  | _=>none
 | some (.slice _),.slice _ n _=>some (.int .i64 n)
 | some (.map _ _),.map none=>some (.int .i64 0)
 | some (.map _ _),.map (some r)=>(mapOf h r).map fun es=>.int .i64 es.length
 | _,_=>none
def cX (P:Program) (t:Option TypeId):Bool :=
 match t with
 | some t=>match P.underlying t with
  | some (.slice _)=>true
  | _=>false
 | none=>false
def Fi (P:Program) (t:Option TypeId):Bool :=
 match t with
 | some t=>match P.underlying t with
  | some (.int _)=>true
  | _=>false
 | none=>false
def nB (P:Program) (h:IH) (st:TypeId) (s x:Value):Option (Value×IH) :=
 match P.underlying st with
 | some (.slice elem)=>match aP P elem,jD P elem,aE P elem,jX x aX with
  | some size,some bytes,some zs,some n=>match s with
   | .slice none a c =>
    bif a == 0 && c == 0 && (Nat.blt 0 n && Nat.blt 0 size) && (Nat.ble bytes 65536 && zs.length == size) && (zs.all aG && Nat.ble (n*(bytes+1)) aX) then
     some (.slice (some ⟨2*h.n,0,none⟩) n (2*n),h.new (.cells (bA n zs) size none)) else none
   | _=>none
  | _,_,_,_=>none
 | _=>none
def builtin (P:Program) (h:IH) (b:Builtin) (ts:Array TypeId) (args:List Value):Option (Value×IH) :=
 match b,args with
 | .len,[x]=>match ts[0]? with
  | some t=>(nT P h t x).map (·,h)
  | none=>none
 | .append,[s,x]=>bif cX P ts[1]? then
   (match ts[0]? with|some st=>append P h st s x|none=>none) else
   bif Fi P ts[1]? then (match ts[0]? with|some st=>nB P h st s x|none=>none) else none
 | .copy,[d,s]=>match ts[0]? with
  | some dt=>qX P h dt d s
  | none=>none
 | .clear,[x]=>match ts[0]? with
  | some t=>sY P h t x
  | none=>none
 | .cap,[x]=>match ts[0]? with
  | some t=>(QO P t x).map (·,h)
  | none=>none
 | .max,_=>bif args.all plain then (cG P (Builtin.max_ ts 0 args.toArray)).map (·,h) else none
 | .min,_=>bif args.all plain then (cG P (Builtin.min_ ts 0 args.toArray)).map (·,h) else none
 | _,_=>none
def iop (P:Program) (fr:Fr) (o:Op) (h:IH):Option (Value×IH) :=
 match o with
 | .move x|.assign x=>(opd fr x).map (·,h)
 | .pick c a b=>match opd fr c with
  | some (.bool true)=>(opd fr a).map (·,h)
  | some (.bool false)=>(opd fr b).map (·,h)
  | _=>none
 | .alloc t=>(aE P t).map fun z=>(ptr (2*h.n) 0,h.new (.cells z 0 none))
 | .box t x=>(opd fr x).map fun v=>(ptr (2*h.n) 0,h.new (.cells v.cells.toList 0 none))
 | .build t parts=>match aE P t,partsOf fr parts.toList with
  | some z,some ps=>bif cu P t then (cz (placeOf P t) z ps).map fun cs=>(.agg cs.toArray,h) else none
  | _,_=>none
 | .buildSlice t len parts=>match partsOf fr parts.toList with
  | some ps=>buildSlice P h t len ps
  | none=>none
 | .load t a=>match opd fr a with
  | some a=>(load P h t a).map (·,h)
  | none=>none
 | .store t a x=>match opd fr a,opd fr x with
  | some a,some v=>(store P h t a v).map (undef,·)
  | _,_=>none
 | .nilCheck x=>match opd fr x with
  | some (.pointer (some a))=>some (.pointer (some a),h)
  | some (.func (.func f) xs ys)=>some (.func (.func f) xs ys,h)
  | some (.func (.yield f) xs ys)=>some (.func (.yield f) xs ys,h)
  | some (.map r)=>some (.map r,h)
  | _=>none
 | .binOp op t x y _=>match opd fr x,opd fr y with
  | some a,some b=>(binop P op t x y a b).map (·,h)
  | _,_=>none
 | .unOp op _ x=>match opd fr x with
  | some v=>bif plain v then (cG P (Op.unary op v)).map (·,h) else none
  | none=>none
 | .convert s d x=>match opd fr x with
  | some v=>bif plain v then (cG P (Go.convert s d v)).map (·,h) else none
  | none=>none
 | .sliceToArrayPointer t x=>match P.underlying t,opd fr x with
  | some (.array n _),some (.slice (some ⟨b,o,none⟩) len k)=>bif Nat.ble n len && Nat.blt 0 k then some (.pointer (some ⟨b,o,none⟩),h) else none
  | _,_=>none
 | .makeFunc fn first cap=>match jV fr first.toList,jV fr cap.toList with
  | some a,some b=>match fn with
   | .func f=>some (.func (.func f) a.toArray b.toArray,h)
   | _=>none
  | _,_=>none
 | .makeMap t r=>match r with
  | none=>some (.map (some (2*h.n)),h.new (.map []))
  | some x=>match opd fr x,P.underlying t with
   | some (.int _ _),some (.map _ _)=>some (.map (some (2*h.n)),h.new (.map []))
   | _,_=>none
 | .makeSlice t l c=>match opd fr l,opd fr c with
  | some l,some c=>makeSlice P h t l c
  | _,_=>none
 | .slice t x lo hi mx=>match opd fr x,fm fr lo,fm fr hi,fm fr mx with
  | some x,some lo,some hi,some mx=>(di P h t x lo hi mx).map (·,h)
  | _,_,_,_=>none
 | .fieldAddr t x f=>match opd fr x,iW P t f with
  | some x,some f=>match asAddr x,aP P f.type with
   | some (b,o),some n=>bif n == 0 then none else some (ptr b (o+f.offset),h)
   | _,_=>none
  | _,_=>none
 | .field t x f=>match opd fr x,iW P t f with
  | some (.agg cs),some f=>(partOf P f.type cs f.offset).map (·,h)
  | _,_=>none
 | .indexAddr t x i=>match opd fr x,opd fr i with
  | some x,some i=>(indexAddr P t x i).map (·,h)
  | _,_=>none
 | .index t x i=>match opd fr x,opd fr i with
  | some (.agg cs),some i=>match P.underlying t,idxOf i with
   | some (.array n e),some (.ofNat j)=>bif Nat.blt j n then match aP P e with
     | some size=>(partOf P e cs (j*size)).map (·,h)
     | none=>none
    else none
   | _,_=>none
  | some (.string s),some i=>bif plain i then (cG P (Instr.index t (.string s) i)).map (·,h) else none
  | _,_=>none
 | .lookup t m k ok=>match opd fr m,opd fr k with
  | some m,some k=>(lookup P h t m k ok).map (·,h)
  | _,_=>none
 | .mapUpdate t m k v|.insert t m k v=>match opd fr m,opd fr k,opd fr v with
  | some m,some k,some v=>(mapUpdate P h t m k v).map (undef,·)
  | _,_,_=>none
 | .extract x i=>match opd fr x with
  | some (.tuple vs)=>(vs[i]?).map (·,h)
  | _=>none
 | .range t x=>match P.underlying t,opd fr x with
  | some (.map _ _),some (.map (some k))=>(mapOf h k).map fun es=>(ptr (2*h.n) 0,h.new (.iter k es.length [] es.length))
  | _,_=>none
 | .entry x=>match opd fr x with
  | some (.pointer (some ⟨b,0,none⟩))=>bif b % 2 == 1 then none else match h.ext.get (b / 2) with
   | some (.iter k _ seen last)=>match mapOf h k,seen.getLast? with
    | some es,some i=>bif es.length == last then (es[i]?).map fun e=>(.tuple #[e.1,e.2],h) else none
    | _,_=>none
   | _=>none
  | _=>none
 | .call c=>match c.callee with
  | .builtin b=>match jV fr c.args.toList with
   | some vs=>builtin P h b c.argTypes vs
   | none=>none
  | _=>none
 | _=>none
end Go.Id
