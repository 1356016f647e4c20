/-
  The ideal machine: an evaluator of the model's code over a memory without chance. Its blocks have numbers of their own (2k+1: the k-th block of the world before the call, read only; 2k: the k-th new one); an append always makes a new block; a region is evaluated in the order of its text. Definitions alone; that the model's machine follows it is proved in the texts behind this one.
-/
import GoSem.Step
import Derived.Calls
set_option linter.unusedVariables false
set_option linter.unusedSimpArgs false
set_option linter.defProp false
set_option linter.deprecated false
namespace Go.Id
open Go
def scal:Value→Bool
 | .bool _|.int _ _|.string _|.nilFunc|.nilIface|.pointer none|.map none=>true
 | .slice none n c=>n == 0 && c == 0
 | _=>false
def plain:Value→Bool
 | .agg cs=>cs.all scal
 | v=>scal v
abbrev Fr:=List (Nat×Value)
def fget:Fr→Nat→Option Value
 | [],_=>none
 | (s,v) :: r,t=>bif s == t then some v else fget r t
def fput (nt:Nat) (fr:Fr) (dst:Option Tmp) (v:Value):Option Fr :=
 match dst with
 | none=>some fr
 | some d=>bif Nat.blt d nt then some ((d,v) :: fr) else none
def keepOnly (fr:Fr):List Nat→Fr
 | [] => []
 | t :: l=>match fget fr t with
  | some v=>(t,v) :: keepOnly fr l
  | none=>keepOnly fr l
def enterFr:Nat→List Value→Fr
 | _,[] => []
 | i,v :: l=>(i,v) :: enterFr (i+1) l
def opd (fr:Fr):Operand→Option Value
 | .tmp t=>fget fr t
 | .const v=>bif plain v then some v else none
 | .global g=>bif Nat.blt g 4294967296 then some (.pointer (some ⟨2*g+1,0,none⟩)) else none
 | .func f=>some (.func (.func f) #[] #[])
def opds (fr:Fr):List Operand→Option (List Value)
 | []=>some []
 | x :: l=>match opd fr x,opds fr l with
  | some v,some vs=>some (v :: vs)
  | _,_=>none
inductive Tr (α:Type) where
 | leaf:Tr α
 | node:Tr α→Option α→Tr α→Tr α
namespace Tr
def get {α:Type}:Tr α→Nat→Option α
 | .leaf,_=>none
 | .node l v r,n=>bif n == 0 then v else bif n % 2 == 1 then l.get (n / 2) else r.get ((n - 1) / 2)
def one {α:Type}:Nat→Nat→α→Tr α
 | 0,_,x=>.node .leaf (some x) .leaf
 | f+1,n,x=>bif n == 0 then .node .leaf (some x) .leaf else bif n % 2 == 1 then .node (one f (n / 2) x) none .leaf else .node .leaf none (one f ((n - 1) / 2) x)
def set {α:Type}:Tr α→Nat→α→Tr α
 | .leaf,n,x=>one n n x
 | .node l v r,n,x=>bif n == 0 then .node l (some x) r else bif n % 2 == 1 then .node (l.set (n / 2) x) v r else .node l v (r.set ((n - 1) / 2) x)
end Tr
structure ILoop where
 state:LoopState
 pending:Option Code
 fn:FuncId
 nt:Nat
 fr:Fr
 params:List Nat
 assign:Code
 body:Code
inductive IObj where
 | cells (cs:List Value) (e:Nat) (fam:Option Nat)      -- e: the cells of an element, where it was made by make, a literal or append
 | map (es:List (Value×Value))
 | loop (r:ILoop)
 | iter (k since:Nat) (seen:List Nat) (last:Nat)        -- an iterator over map k: the entries that have been, by their places
 | num (x:Nat)        -- the words of a number; nobody writes them
 | dead
structure IH where
 base:Nat→Option (List Value)
 n:Nat
 ext:Tr IObj
 fams:Tr (List Nat)
namespace IH
def new (h:IH) (o:IObj):IH:={ h with n:=h.n+1,ext:=h.ext.set h.n o }
def row (h:IH) (b:Nat):Option (List Value) :=
 bif b % 2 == 1 then h.base (b / 2) else match h.ext.get (b / 2) with
  | some (.cells cs _ _)=>some cs
  | _=>none
def rd (h:IH) (b o n:Nat):Option (List Value) :=
 match h.row b with
 | some cs=>bif Nat.ble (o+n) cs.length then some ((cs.drop o).take n) else none
 | none=>none
def killAll (e:Tr IObj):List Nat→Tr IObj
 | []=>e
 | k :: l=>killAll (e.set k .dead) l
def splice (cs:List Value) (o:Nat) (vs:List Value):List Value:=cs.take o ++ (vs ++ cs.drop (o+vs.length))
def wr (h:IH) (b o:Nat) (vs:List Value):Option IH :=
 bif b % 2 == 1 then none else match h.ext.get (b / 2) with
  | some (.cells cs t fam) =>
   bif Nat.ble (o+vs.length) cs.length then
    match fam with
    | none=>some { h with ext:=h.ext.set (b / 2) (.cells (splice cs o vs) t none) }
    | some f=>match h.fams.get f with
     | some st=>some { h with ext:=(killAll h.ext (st.filter (· != b / 2))).set (b / 2) (.cells (splice cs o vs) t none) }
     | none=>none
   else none
  | _=>none
end IH
def pureRun (P:Program) {α:Type}:Sem α→Option α
 | .pure a=>some a
 | .program k=>pureRun P (k P)
 | _=>none
def pureVal (P:Program) (s:Sem Value):Option Value :=
 match pureRun P s with
 | some v=>bif plain v then some v else none
 | none=>none
def isAggT (P:Program) (t:TypeId):Option Bool:=(P.underlying t).map fun d=>match d with|.struct _|.array _ _=>true|_=>false
def sizeT (P:Program) (t:TypeId):Option Nat:=(P.info? t).map (·.size)
def bytesT (P:Program) (t:TypeId):Option Nat:=(P.info? t).map (·.bytes)
def zeroT (P:Program) (t:TypeId):Option Value:=(P.info? t).bind (·.zero)
def zeroCellsT (P:Program) (t:TypeId):Option (List Value):=match zeroT P t with
 | some z=>bif plain z then some z.cells.toList else none
 | none=>none
def asAddr:Value→Option (Nat×Nat)
 | .pointer (some ⟨b,o,none⟩)=>some (b,o)
 | _=>none
def cellOK:Value→Bool
 | .agg _=>false
 | .tuple _=>false
 | _=>true
def ptr (b o:Nat):Value:=.pointer (some ⟨b,o,none⟩)
def load (P:Program) (h:IH) (t:TypeId) (a:Value):Option Value :=
 match asAddr a,isAggT P t,sizeT P t with
 | some (b,o),some true,some n=>(h.rd b o n).map fun cs=>.agg cs.toArray
 | some (b,o),some false,_=>(h.rd b o 1).bind (·.head?)
 | _,_,_=>none
def store (P:Program) (h:IH) (t:TypeId) (a v:Value):Option IH :=
 match asAddr a,sizeT P t with
 | some (b,o),some n=>bif v.cells.size == n && v.cells.toList.all cellOK then h.wr b o v.cells.toList else none
 | _,_=>none
def sizeMost:Nat:=1099511627776
def cellsMost:Nat:=16777216
def repl:Nat→List Value→List Value
 | 0,_ => []
 | n+1,z=>z ++ repl n z
def fillP (place:Nat→Option (Nat×Nat)) (cells:List Value):List (Nat×Value)→Option (List Value)
 | []=>some cells
 | (i,v) :: rest=>match place i with
  | none=>none
  | some (o,n)=>bif v.cells.size == n && Nat.ble (o+n) cells.length then fillP place (IH.splice cells o v.cells.toList) rest else none
def idxOf:Value→Option Int
 | .int _ n=>some n
 | _=>none
def natOf (v:Value) (most:Nat):Option Nat :=
 match v with
 | .int _ n=>match n with
  | .ofNat m=>bif Nat.ble m most then some m else none
  | .negSucc _=>none
 | _=>none
def hiOf (hi:Option Value) (len c:Nat):Option Nat:=match hi with
 | none=>some len
 | some v=>natOf v c
def loOf (lo:Option Value) (h:Nat):Option Nat:=match lo with
 | none=>some 0
 | some v=>natOf v h
def boundsOf (len c:Nat) (lo hi mx:Option Value):Option (Nat×Nat×Option Nat) :=
 match mx with
 | none=>match hiOf hi len c with
  | none=>none
  | some h=>match loOf lo h with
   | none=>none
   | some l=>some (l,h,none)
 | some mv=>match natOf mv c with
  | none=>none
  | some m=>match hi with
   | none=>none
   | some hv=>match natOf hv m with
    | none=>none
    | some h=>match loOf lo h with
     | none=>none
     | some l=>some (l,h,some m)
def resliced (size:Nat) (room:Bool) (x:Value) (lo hi mx:Option Value):Option Value :=
 match x with
 | .slice none n c=>bif n == 0 && c == 0 then (match boundsOf 0 0 lo hi mx with|some _=>some (.slice none 0 0)|none=>none) else none
 | .slice (some ⟨b,o,none⟩) len k =>
  match boundsOf len (k / 2) lo hi mx with
  | none=>none
  | some (l,h,om) =>
   bif k == 0 then some (.slice (some ⟨b,o,none⟩) 0 0) else match om with
   | none =>
    bif l == k / 2 then (bif k % 2 == 1 then some (.slice (some ⟨b,o,none⟩) 0 1) else some (.slice (some ⟨b,o,none⟩) 0 0))
    else bif k % 2 == 1 || room then some (.slice (some ⟨b,o+l*size,none⟩) (h - l) (k - 2*l)) else none
   | some m =>
    bif l == m then some (.slice (some ⟨b,o,none⟩) 0 1)
    else some (.slice (some ⟨b,o+l*size,none⟩) (h - l) (2*(m - l)+1))
 | _=>none
def firstOf (h:IH) (size n:Nat) (x:Value):Option (List Value) :=
 match x with
 | .slice none _ _=>some []
 | .slice (some ⟨b,o,none⟩) len _=>bif Nat.ble n len then (bif n*size == 0 then some [] else h.rd b o (n*size)) else none
 | _=>none
def lenOf:Value→Option Nat
 | .slice _ n _=>some n
 | _=>none
def grown (h:IH) (k f:Nat) (cs:List Value) (t:Nat) (above below:List Nat) (cs':List Value) (t':Nat):IH :=
 { h with n:=h.n+1,ext:=((IH.killAll h.ext above).set k (.cells cs t (some f))).set h.n (.cells cs' t' (some f)),fams:=h.fams.set f (h.n :: k :: below) }
def append (P:Program) (h:IH) (st:TypeId) (s x:Value):Option (Value×IH) :=
 match P.underlying st with
 | some (.slice elem)=>match sizeT P elem,bytesT P elem,zeroCellsT P elem,lenOf x with
  | some size,some bytes,some zs,some n =>
   bif n == 0 then (match s with|.slice none a c=>bif a == 0 && c == 0 then some (s,h) else none|.slice (some ⟨_,_,none⟩) _ _=>some (s,h)|_=>none) else
   bif size == 0 || (!(Nat.ble bytes 65536) || !(zs.length == size)) then none else
   match firstOf h size n x with
   | none=>none
   | some new=>bif !(new.all cellOK) then none else match s with
    | .slice none a c=>bif a == 0 && c == 0 && Nat.ble (n*(bytes+1)) sizeMost then some (.slice (some ⟨2*h.n,0,none⟩) n (2*n),h.new (.cells new size none)) else none
    | .slice (some ⟨b,o,none⟩) len k =>
     bif !(Nat.ble ((len+n)*(bytes+1)) sizeMost) then none else
     bif Nat.ble (len+n) (k / 2) then (h.wr b (o+len*size) new).map fun h=>(.slice (some ⟨b,o,none⟩) (len+n) k,h)
     else bif k % 2 == 1 then
      match firstOf h size len s with
      | none=>none
      | some old=>some (.slice (some ⟨2*h.n,0,none⟩) (len+n) (2*(len+n)),h.new (.cells (old ++ new) size none))
     else bif len == k / 2 && Nat.blt 0 len && b % 2 == 0 then
      match h.ext.get (b / 2) with
      | some (.cells cs t fam) =>
       bif o+len*size == cs.length && t == size then
        match fam with
        | none=>some (.slice (some ⟨2*h.n,0,none⟩) (len+n) (2*(len+n)),grown h (b / 2) h.n cs t [] [] (cs.drop o ++ new) size)
        | some f=>match h.fams.get f with
         | none=>none
         | some stk=>some (.slice (some ⟨2*h.n,0,none⟩) (len+n) (2*(len+n)),
           grown h (b / 2) f cs t (stk.takeWhile (· != b / 2)) ((stk.dropWhile (· != b / 2)).drop 1) (cs.drop o ++ new) size)
       else none
      | _=>none
     else none
    | _=>none
  | _,_,_,_=>none
 | _=>none
def fieldOf (P:Program) (t:TypeId) (f:Nat):Option Field :=
 match P.underlying t with
 | some (.struct fs)=>fs[f]?
 | _=>none
def partOf (P:Program) (t:TypeId) (cs:Array Value) (off:Nat):Option Value :=
 match isAggT P t,sizeT P t with
 | some true,some n=>some (.agg (cs.extract off (off+n)))
 | some false,_=>cs[off]?
 | _,_=>none
def nilEqV:TypeDesc→Value→Value→Option Bool
 | .slice _,.slice none _ _,.slice none _ _=>some true
 | .slice _,.slice none _ _,.slice (some ⟨_,_,none⟩) _ _=>some false
 | .slice _,.slice (some ⟨_,_,none⟩) _ _,.slice none _ _=>some false
 | .map _ _,.map none,.map none=>some true
 | .map _ _,.map none,.map (some _)=>some false
 | .map _ _,.map (some _),.map none=>some false
 | .func _ _ _,.nilFunc,.nilFunc=>some true
 | .func _ _ _,.nilFunc,.func _ _ _=>some false
 | .func _ _ _,.func _ _ _,.nilFunc=>some false
 | .pointer _,.pointer none,.pointer none=>some true
 | .pointer _,.pointer none,.pointer (some _)=>some false
 | .pointer _,.pointer (some _),.pointer none=>some false
 | _,_,_=>none
def nilEq (P:Program) (t:TypeId) (x y:Value):Option Bool :=
 match P.underlying t with
 | some d=>nilEqV d x y
 | none=>none
def binop (P:Program) (op:BinOp) (t:TypeId) (ox oy:Operand) (x y:Value):Option Value :=
 bif plain x && plain y then pureVal P (do eqGuard op t ox oy x y;Go.binOp op t x y)
 else match op with
  | .eql=>(nilEq P t x y).map .bool
  | .neq=>(nilEq P t x y).map fun b=>.bool !b
  | _=>none
def placeOf (P:Program) (t:TypeId) (i:Nat):Option (Nat×Nat) :=
 match P.underlying t with
 | some (.struct fs)=>match fs[i]? with
  | some f=>(sizeT P f.type).map fun n=>(f.offset,n)
  | none=>none
 | some (.array _ e)=>(sizeT P e).map fun n=>(i*n,n)
 | _=>none
def allSized (P:Program) (t:TypeId):Bool :=
 match P.underlying t with
 | some (.struct fs)=>fs.all fun f=>(P.info? f.type).isSome
 | some (.array _ e)=>(P.info? e).isSome
 | _=>false
def partsOf (fr:Fr):List (Nat×Operand)→Option (List (Nat×Value))
 | []=>some []
 | (i,x) :: l=>match opd fr x,partsOf fr l with
  | some v,some vs=>some ((i,v) :: vs)
  | _,_=>none
def keyEntries (es:List (Value×Value)):List MapEntry:=es.map fun e => { key:=e.1,val:=.nilIface,born:=0 }
def mapOf (h:IH) (k:Nat):Option (List (Value×Value)) :=
 bif k % 2 == 1 then none else match h.ext.get (k / 2) with
 | some (.map es)=>some es
 | _=>none
def findK (P:Program) (kt:TypeId) (k:Value) (es:List (Value×Value)):Option (Option Nat) :=
 bif plain k then
  match pureRun P (Instr.checkKey es.isEmpty 10000 kt k),pureRun P (Instr.findKey kt k (keyEntries es)) with
  | some (),some r=>some (r.map (·.1))
  | _,_=>none
 else none
def entriesOf (h:IH):Value→Option (List (Value×Value))
 | .map none=>some []
 | .map (some r)=>mapOf h r
 | _=>none
def okUnit:Option Unit→Bool
 | some _=>true
 | none=>false
def lookup (P:Program) (h:IH) (mt:TypeId) (m k:Value) (ok:Bool):Option Value :=
 match P.underlying mt with
 | some (.map kt et) =>
  match entriesOf h m with
  | none=>none
  | some es=>match findK P kt k es with
   | none=>none
   | some none=>match zeroT P et with
    | some z=>bif plain z then some (bif ok then .tuple #[z,.bool false] else z) else none
    | none=>none
   | some (some i)=>(es[i]?).map fun e=>bif ok then .tuple #[e.2,.bool true] else e.2
 | _=>none
def mapUpdate (P:Program) (h:IH) (mt:TypeId) (m k v:Value):Option IH :=
 match P.underlying mt,m with
 | some (.map kt _),.map (some r) =>
  match mapOf h r with
  | none=>none
  | some es =>
   bif okUnit (pureRun P (Instr.checkKey false 10000 kt k)) then
   match findK P kt k es with
   | none=>none
   | some none=>some { h with ext:=h.ext.set (r / 2) (.map (es ++ [(k,v)])) }
   | some (some i)=>match es[i]? with
    | some e=>bif Instr.sameBits 10000 e.1 k then some { h with ext:=h.ext.set (r / 2) (.map (es.set i (k,v))) } else none
    | none=>none
   else none
 | _,_=>none
def makeSlice (P:Program) (h:IH) (t:TypeId) (l c:Value):Option (Value×IH) :=
 match P.underlying t with
 | some (.slice e)=>match natOf l sizeMost,natOf c sizeMost,sizeT P e,bytesT P e,zeroCellsT P e with
  | some l,some c,some n,some by_,some z =>
   bif Nat.ble l c && Nat.ble (c*(by_+1)) sizeMost && z.length == n then
    some (.slice (some ⟨2*h.n,0,none⟩) l (2*c+1),h.new (.cells (repl c z) n none))
   else none
  | _,_,_,_,_=>none
 | _=>none
def buildSlice (P:Program) (h:IH) (t:TypeId) (len:Nat) (parts:List (Nat×Value)):Option (Value×IH) :=
 match P.underlying t with
 | some (.slice e)=>match sizeT P e,zeroCellsT P e with
  | some n,some z=>bif Nat.ble (len*n) cellsMost && z.length == n then
    match fillP (fun i=>some (i*n,n)) (repl len z) parts with
    | some cells=>some (.slice (some ⟨2*h.n,0,none⟩) len (2*len+1),h.new (.cells cells n none))
    | none=>none
   else none
  | _,_=>none
 | _=>none
def indexAddr (P:Program) (t:TypeId) (x i:Value):Option Value :=
 match P.underlying t,x,idxOf i with
 | some (.array n e),.pointer (some ⟨b,o,none⟩),some i=>match sizeT P e,i with
  | some size,.ofNat j=>bif Nat.blt j n then some (.pointer (some ⟨b,o+j*size,none⟩)) else none
  | _,_=>none
 | some (.slice e),.slice (some ⟨b,o,none⟩) n _,some i=>match sizeT P e,i with
  | some size,.ofNat j=>bif Nat.blt j n then some (.pointer (some ⟨b,o+j*size,none⟩)) else none
  | _,_=>none
 | _,_,_=>none
def roomy (h:IH) (size:Nat) (x:Value):Bool :=
 match x with
 | .slice (some ⟨b,_,_⟩) _ _=>b % 2 == 0 && (match h.ext.get (b / 2) with
  | some (.cells _ e _)=>e == size
  | _=>false)
 | _=>false
def sliceOp (P:Program) (h:IH) (t:TypeId) (x:Value) (lo hi mx:Option Value):Option Value :=
 match P.underlying t with
 | some (.slice e)=>match sizeT P e with
  | some size=>resliced size (roomy h size x) x lo hi mx
  | none=>none
 | some (.array n e)=>match sizeT P e,asAddr x with
  | some size,some (b,o)=>resliced size false (.slice (some ⟨b,o,none⟩) n (2*n+1)) lo hi mx
  | _,_=>none
 | some (.pointer arr)=>match P.underlying arr with
  | some (.array n e)=>match sizeT P e,asAddr x with
   | some size,some (b,o)=>resliced size false (.slice (some ⟨b,o,none⟩) n (2*n+1)) lo hi mx
   | _,_=>none
  | _=>none
 | some .string=>bif plain x && (lo.all plain && hi.all plain && mx.all plain) then pureVal P (Instr.slice t x lo hi mx) else none
 | _=>none
def optOpd (fr:Fr):Option Operand→Option (Option Value)
 | none=>some none
 | some x=>(opd fr x).map some
def copyOp (P:Program) (h:IH) (dt:TypeId) (d s:Value):Option (Value×IH) :=
 match P.underlying dt,lenOf d,lenOf s with
 | some (.slice e),some dn,some sn=>match sizeT P e with
  | some size =>
   let n:=Nat.min sn dn
   match firstOf h size n s with
   | none=>none
   | some cs=>match d with
    | .slice none _ _=>some (.int .i64 n,h)
    | .slice (some ⟨b,o,none⟩) _ _=>bif cs.isEmpty then some (.int .i64 n,h) else bif !(cs.all cellOK) then none else (h.wr b o cs).map fun h=>(.int .i64 n,h)
    | _=>none
  | none=>none
 | _,_,_=>none
def clearOp (P:Program) (h:IH) (t:TypeId) (x:Value):Option (Value×IH) :=
 match P.underlying t,x with
 | some (.slice _),.slice none _ _=>some (.tuple #[],h)
 | some (.slice e),.slice (some ⟨b,o,none⟩) n _=>bif n == 0 then some (.tuple #[],h) else
  match zeroCellsT P e with
  | some z=>bif z.isEmpty || !(z.all cellOK) then none else (h.wr b o (repl n z)).map fun h=>(.tuple #[],h)
  | none=>none
 | _,_=>none
def capB (P:Program) (t:TypeId) (x:Value):Option Value :=
 match P.underlying t,x with
 | some (.slice _),.slice none _ _=>some (.int .i64 0)
 | some (.slice _),.slice (some ⟨_,_,none⟩) _ k=>bif k % 2 == 1 then some (.int .i64 ((k / 2:Nat):Int)) else none
 | _,_=>none
def lenB (P:Program) (h:IH) (t:TypeId) (x:Value):Option Value :=
 match P.underlying t,x with
 | some .string,.string s=>some (.int .i64 s.size)
 | some (.array n _),_=>some (.int .i64 n)
 | some (.pointer a),_=>match P.underlying a with
  | some (.array n _)=>some (.int .i64 n)
  | _=>none
 | some (.slice _),.slice _ n _=>some (.int .i64 n)
 | some (.map _ _),.map none=>some (.int .i64 0)
 | some (.map _ _),.map (some r)=>(mapOf h r).map fun es=>.int .i64 es.length
 | _,_=>none
def isSliceT (P:Program) (t:Option TypeId):Bool :=
 match t with
 | some t=>match P.underlying t with
  | some (.slice _)=>true
  | _=>false
 | none=>false
def isIntT (P:Program) (t:Option TypeId):Bool :=
 match t with
 | some t=>match P.underlying t with
  | some (.int _)=>true
  | _=>false
 | none=>false
def appendZ (P:Program) (h:IH) (st:TypeId) (s x:Value):Option (Value×IH) :=
 match P.underlying st with
 | some (.slice elem)=>match sizeT P elem,bytesT P elem,zeroCellsT P elem,natOf x sizeMost with
  | some size,some bytes,some zs,some n=>match s with
   | .slice none a c =>
    bif a == 0 && c == 0 && (Nat.blt 0 n && Nat.blt 0 size) && (Nat.ble bytes 65536 && zs.length == size) && (zs.all cellOK && Nat.ble (n*(bytes+1)) sizeMost) then
     some (.slice (some ⟨2*h.n,0,none⟩) n (2*n),h.new (.cells (repl n zs) size none)) else none
   | _=>none
  | _,_,_,_=>none
 | _=>none
def builtin (P:Program) (h:IH) (b:Builtin) (ts:Array TypeId) (args:List Value):Option (Value×IH) :=
 match b,args with
 | .len,[x]=>match ts[0]? with
  | some t=>(lenB P h t x).map (·,h)
  | none=>none
 | .append,[s,x]=>bif isSliceT P ts[1]? then
   (match ts[0]? with|some st=>append P h st s x|none=>none) else
   bif isIntT P ts[1]? then (match ts[0]? with|some st=>appendZ P h st s x|none=>none) else none
 | .copy,[d,s]=>match ts[0]? with
  | some dt=>copyOp P h dt d s
  | none=>none
 | .clear,[x]=>match ts[0]? with
  | some t=>clearOp P h t x
  | none=>none
 | .cap,[x]=>match ts[0]? with
  | some t=>(capB P t x).map (·,h)
  | none=>none
 | .max,_=>bif args.all plain then (pureVal P (Builtin.max_ ts 0 args.toArray)).map (·,h) else none
 | .min,_=>bif args.all plain then (pureVal P (Builtin.min_ ts 0 args.toArray)).map (·,h) else none
 | _,_=>none
def iop (P:Program) (fr:Fr) (o:Op) (h:IH):Option (Value×IH) :=
 match o with
 | .move x|.assign x=>(opd fr x).map (·,h)
 | .pick c a b=>match opd fr c with
  | some (.bool true)=>(opd fr a).map (·,h)
  | some (.bool false)=>(opd fr b).map (·,h)
  | _=>none
 | .alloc t=>(zeroCellsT P t).map fun z=>(ptr (2*h.n) 0,h.new (.cells z 0 none))
 | .box t x=>(opd fr x).map fun v=>(ptr (2*h.n) 0,h.new (.cells v.cells.toList 0 none))
 | .build t parts=>match zeroCellsT P t,partsOf fr parts.toList with
  | some z,some ps=>bif allSized P t then (fillP (placeOf P t) z ps).map fun cs=>(.agg cs.toArray,h) else none
  | _,_=>none
 | .buildSlice t len parts=>match partsOf fr parts.toList with
  | some ps=>buildSlice P h t len ps
  | none=>none
 | .load t a=>match opd fr a with
  | some a=>(load P h t a).map (·,h)
  | none=>none
 | .store t a x=>match opd fr a,opd fr x with
  | some a,some v=>(store P h t a v).map (undef,·)
  | _,_=>none
 | .nilCheck x=>match opd fr x with
  | some (.pointer (some a))=>some (.pointer (some a),h)
  | some (.func (.func f) xs ys)=>some (.func (.func f) xs ys,h)
  | some (.func (.yield f) xs ys)=>some (.func (.yield f) xs ys,h)
  | some (.map r)=>some (.map r,h)
  | _=>none
 | .binOp op t x y _=>match opd fr x,opd fr y with
  | some a,some b=>(binop P op t x y a b).map (·,h)
  | _,_=>none
 | .unOp op _ x=>match opd fr x with
  | some v=>bif plain v then (pureVal P (Op.unary op v)).map (·,h) else none
  | none=>none
 | .convert s d x=>match opd fr x with
  | some v=>bif plain v then (pureVal P (Go.convert s d v)).map (·,h) else none
  | none=>none
 | .sliceToArrayPointer t x=>match P.underlying t,opd fr x with
  | some (.array n _),some (.slice (some ⟨b,o,none⟩) len k)=>bif Nat.ble n len && Nat.blt 0 k then some (.pointer (some ⟨b,o,none⟩),h) else none
  | _,_=>none
 | .makeFunc fn first cap=>match opds fr first.toList,opds fr cap.toList with
  | some a,some b=>match fn with
   | .func f=>some (.func (.func f) a.toArray b.toArray,h)
   | _=>none
  | _,_=>none
 | .makeMap t r=>match r with
  | none=>some (.map (some (2*h.n)),h.new (.map []))
  | some x=>match opd fr x,P.underlying t with
   | some (.int _ _),some (.map _ _)=>some (.map (some (2*h.n)),h.new (.map []))
   | _,_=>none
 | .makeSlice t l c=>match opd fr l,opd fr c with
  | some l,some c=>makeSlice P h t l c
  | _,_=>none
 | .slice t x lo hi mx=>match opd fr x,optOpd fr lo,optOpd fr hi,optOpd fr mx with
  | some x,some lo,some hi,some mx=>(sliceOp P h t x lo hi mx).map (·,h)
  | _,_,_,_=>none
 | .fieldAddr t x f=>match opd fr x,fieldOf P t f with
  | some x,some f=>match asAddr x,sizeT P f.type with
   | some (b,o),some n=>bif n == 0 then none else some (ptr b (o+f.offset),h)
   | _,_=>none
  | _,_=>none
 | .field t x f=>match opd fr x,fieldOf P t f with
  | some (.agg cs),some f=>(partOf P f.type cs f.offset).map (·,h)
  | _,_=>none
 | .indexAddr t x i=>match opd fr x,opd fr i with
  | some x,some i=>(indexAddr P t x i).map (·,h)
  | _,_=>none
 | .index t x i=>match opd fr x,opd fr i with
  | some (.agg cs),some i=>match P.underlying t,idxOf i with
   | some (.array n e),some (.ofNat j)=>bif Nat.blt j n then match sizeT P e with
     | some size=>(partOf P e cs (j*size)).map (·,h)
     | none=>none
    else none
   | _,_=>none
  | some (.string s),some i=>bif plain i then (pureVal P (Instr.index t (.string s) i)).map (·,h) else none
  | _,_=>none
 | .lookup t m k ok=>match opd fr m,opd fr k with
  | some m,some k=>(lookup P h t m k ok).map (·,h)
  | _,_=>none
 | .mapUpdate t m k v|.insert t m k v=>match opd fr m,opd fr k,opd fr v with
  | some m,some k,some v=>(mapUpdate P h t m k v).map (undef,·)
  | _,_,_=>none
 | .extract x i=>match opd fr x with
  | some (.tuple vs)=>(vs[i]?).map (·,h)
  | _=>none
 | .range t x=>match P.underlying t,opd fr x with
  | some (.map _ _),some (.map (some k))=>(mapOf h k).map fun es=>(ptr (2*h.n) 0,h.new (.iter k es.length [] es.length))
  | _,_=>none
 | .entry x=>match opd fr x with
  | some (.pointer (some ⟨b,0,none⟩))=>bif b % 2 == 1 then none else match h.ext.get (b / 2) with
   | some (.iter k _ seen last)=>match mapOf h k,seen.getLast? with
    | some es,some i=>bif es.length == last then (es[i]?).map fun e=>(.tuple #[e.1,e.2],h) else none
    | _,_=>none
   | _=>none
  | _=>none
 | .call c=>match c.callee with
  | .builtin b=>match opds fr c.args.toList with
   | some vs=>builtin P h b c.argTypes vs
   | none=>none
  | _=>none
 | _=>none
end Go.Id
