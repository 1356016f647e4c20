/-
  The ideal machine: an evaluator of the model's code over a memory without chance. Its blocks have numbers of their own (2k+1: the k-th block of the world before the call, read only; 2k: the k-th new one); an append always makes a new block; a region is evaluated in the order of its text. Definitions alone; that the model's machine follows it is proved in the texts behind this one. The ideal machine, second part: regions, code, calls.
-/
import GoSem.Step
import Derived.Calls
import Derived.Below
set_option linter.unusedVariables false
set_option linter.unusedSimpArgs false
set_option linter.defProp false
set_option linter.deprecated false
namespace Go.Id
open Go
def scal:Value→Bool
 | .bool _|.int _ _|.string _|.nilFunc|.nilIface|.pointer none|.map none=>true
 | .slice none n c=>n == 0 && c == 0
 | _=>false
def plain:Value→Bool
 | .agg cs=>cs.all scal
 | v=>scal v
abbrev Fr:=List (Nat×Value)
def fget:Fr→Nat→Option Value
 | [],_=>none
 | (s,v) :: r,t=>bif s == t then some v else fget r t
def fput (nt:Nat) (fr:Fr) (dst:Option Tmp) (v:Value):Option Fr :=
 match dst with
 | none=>some fr
 | some d=>bif Nat.blt d nt then some ((d,v) :: fr) else none
def keepOnly (fr:Fr):List Nat→Fr
 | [] => []
 | t :: l=>match fget fr t with
  | some v=>(t,v) :: keepOnly fr l
  | none=>keepOnly fr l
def enterFr:Nat→List Value→Fr
 | _,[] => []
 | i,v :: l=>(i,v) :: enterFr (i+1) l
def opd (fr:Fr):Operand→Option Value
 | .tmp t=>fget fr t
 | .const v=>bif plain v then some v else none
 | .global g=>bif Nat.blt g 4294967296 then some (.pointer (some ⟨2*g+1,0,none⟩)) else none
 | .func f=>some (.func (.func f) #[] #[])
def opds (fr:Fr):List Operand→Option (List Value)
 | []=>some []
 | x :: l=>match opd fr x,opds fr l with
  | some v,some vs=>some (v :: vs)
  | _,_=>none
inductive Tr (α:Type) where
 | leaf:Tr α
 | node:Tr α→Option α→Tr α→Tr α
namespace Tr
def get {α:Type}:Tr α→Nat→Option α
 | .leaf,_=>none
 | .node l v r,n=>bif n == 0 then v else bif n % 2 == 1 then l.get (n / 2) else r.get ((n - 1) / 2)
def one {α:Type}:Nat→Nat→α→Tr α
 | 0,_,x=>.node .leaf (some x) .leaf
 | f+1,n,x=>bif n == 0 then .node .leaf (some x) .leaf else bif n % 2 == 1 then .node (one f (n / 2) x) none .leaf else .node .leaf none (one f ((n - 1) / 2) x)
def set {α:Type}:Tr α→Nat→α→Tr α
 | .leaf,n,x=>one n n x
 | .node l v r,n,x=>bif n == 0 then .node l (some x) r else bif n % 2 == 1 then .node (l.set (n / 2) x) v r else .node l v (r.set ((n - 1) / 2) x)
end Tr
structure ILoop where
 state:LoopState
 pending:Option Code
 fn:FuncId
 nt:Nat
 fr:Fr
 params:List Nat
 assign:Code
 body:Code
inductive IObj where
 | cells (cs:List Value) (e:Nat) (fam:Option Nat)      -- e: the cells of an element, where it was made by make, a literal or append
 | map (es:List (Value×Value))
 | loop (r:ILoop)
 | iter (k since:Nat) (seen:List Nat) (last:Nat)        -- an iterator over map k: the entries that have been, by their places
 | dead
structure IH where
 base:Nat→Option (List Value)
 n:Nat
 ext:Tr IObj
 fams:Tr (List Nat)
namespace IH
def new (h:IH) (o:IObj):IH:={ h with n:=h.n+1,ext:=h.ext.set h.n o }
def row (h:IH) (b:Nat):Option (List Value) :=
 bif b % 2 == 1 then h.base (b / 2) else match h.ext.get (b / 2) with
  | some (.cells cs _ _)=>some cs
  | _=>none
def rd (h:IH) (b o n:Nat):Option (List Value) :=
 match h.row b with
 | some cs=>bif Nat.ble (o+n) cs.length then some ((cs.drop o).take n) else none
 | none=>none
def killAll (e:Tr IObj):List Nat→Tr IObj
 | []=>e
 | k :: l=>killAll (e.set k .dead) l
def splice (cs:List Value) (o:Nat) (vs:List Value):List Value:=cs.take o ++ (vs ++ cs.drop (o+vs.length))
def wr (h:IH) (b o:Nat) (vs:List Value):Option IH :=
 bif b % 2 == 1 then none else match h.ext.get (b / 2) with
  | some (.cells cs t fam) =>
   bif Nat.ble (o+vs.length) cs.length then
    match fam with
    | none=>some { h with ext:=h.ext.set (b / 2) (.cells (splice cs o vs) t none) }
    | some f=>match h.fams.get f with
     | some st=>some { h with ext:=(killAll h.ext (st.filter (· != b / 2))).set (b / 2) (.cells (splice cs o vs) t none) }
     | none=>none
   else none
  | _=>none
end IH
def pureRun (P:Program) {α:Type}:Sem α→Option α
 | .pure a=>some a
 | .program k=>pureRun P (k P)
 | _=>none
def pureVal (P:Program) (s:Sem Value):Option Value :=
 match pureRun P s with
 | some v=>bif plain v then some v else none
 | none=>none
def isAggT (P:Program) (t:TypeId):Option Bool:=(P.underlying t).map fun d=>match d with|.struct _|.array _ _=>true|_=>false
def sizeT (P:Program) (t:TypeId):Option Nat:=(P.info? t).map (·.size)
def bytesT (P:Program) (t:TypeId):Option Nat:=(P.info? t).map (·.bytes)
def zeroT (P:Program) (t:TypeId):Option Value:=(P.info? t).bind (·.zero)
def zeroCellsT (P:Program) (t:TypeId):Option (List Value):=match zeroT P t with
 | some z=>bif plain z then some z.cells.toList else none
 | none=>none
def asAddr:Value→Option (Nat×Nat)
 | .pointer (some ⟨b,o,none⟩)=>some (b,o)
 | _=>none
def cellOK:Value→Bool
 | .agg _=>false
 | .tuple _=>false
 | _=>true
def ptr (b o:Nat):Value:=.pointer (some ⟨b,o,none⟩)
def load (P:Program) (h:IH) (t:TypeId) (a:Value):Option Value :=
 match asAddr a,isAggT P t,sizeT P t with
 | some (b,o),some true,some n=>(h.rd b o n).map fun cs=>.agg cs.toArray
 | some (b,o),some false,_=>(h.rd b o 1).bind (·.head?)
 | _,_,_=>none
def store (P:Program) (h:IH) (t:TypeId) (a v:Value):Option IH :=
 match asAddr a,sizeT P t with
 | some (b,o),some n=>bif v.cells.size == n && v.cells.toList.all cellOK then h.wr b o v.cells.toList else none
 | _,_=>none
def sizeMost:Nat:=1099511627776
def cellsMost:Nat:=16777216
def repl:Nat→List Value→List Value
 | 0,_ => []
 | n+1,z=>z ++ repl n z
def fillP (place:Nat→Option (Nat×Nat)) (cells:List Value):List (Nat×Value)→Option (List Value)
 | []=>some cells
 | (i,v) :: rest=>match place i with
  | none=>none
  | some (o,n)=>bif v.cells.size == n && Nat.ble (o+n) cells.length then fillP place (IH.splice cells o v.cells.toList) rest else none
def idxOf:Value→Option Int
 | .int _ n=>some n
 | _=>none
def natOf (v:Value) (most:Nat):Option Nat :=
 match v with
 | .int _ n=>match n with
  | .ofNat m=>bif Nat.ble m most then some m else none
  | .negSucc _=>none
 | _=>none
def hiOf (hi:Option Value) (len c:Nat):Option Nat:=match hi with
 | none=>some len
 | some v=>natOf v c
def loOf (lo:Option Value) (h:Nat):Option Nat:=match lo with
 | none=>some 0
 | some v=>natOf v h
def boundsOf (len c:Nat) (lo hi mx:Option Value):Option (Nat×Nat×Option Nat) :=
 match mx with
 | none=>match hiOf hi len c with
  | none=>none
  | some h=>match loOf lo h with
   | none=>none
   | some l=>some (l,h,none)
 | some mv=>match natOf mv c with
  | none=>none
  | some m=>match hi with
   | none=>none
   | some hv=>match natOf hv m with
    | none=>none
    | some h=>match loOf lo h with
     | none=>none
     | some l=>some (l,h,some m)
def resliced (size:Nat) (room:Bool) (x:Value) (lo hi mx:Option Value):Option Value :=
 match x with
 | .slice none n c=>bif n == 0 && c == 0 then (match boundsOf 0 0 lo hi mx with|some _=>some (.slice none 0 0)|none=>none) else none
 | .slice (some ⟨b,o,none⟩) len k =>
  match boundsOf len (k / 2) lo hi mx with
  | none=>none
  | some (l,h,om) =>
   bif k == 0 then some (.slice (some ⟨b,o,none⟩) 0 0) else match om with
   | none =>
    bif l == k / 2 then (bif k % 2 == 1 then some (.slice (some ⟨b,o,none⟩) 0 1) else some (.slice (some ⟨b,o,none⟩) 0 0))
    else bif k % 2 == 1 || room then some (.slice (some ⟨b,o+l*size,none⟩) (h - l) (k - 2*l)) else none
   | some m =>
    bif l == m then some (.slice (some ⟨b,o,none⟩) 0 1)
    else some (.slice (some ⟨b,o+l*size,none⟩) (h - l) (2*(m - l)+1))
 | _=>none
def firstOf (h:IH) (size n:Nat) (x:Value):Option (List Value) :=
 match x with
 | .slice none _ _=>some []
 | .slice (some ⟨b,o,none⟩) len _=>bif Nat.ble n len then (bif n*size == 0 then some [] else h.rd b o (n*size)) else none
 | _=>none
def lenOf:Value→Option Nat
 | .slice _ n _=>some n
 | _=>none
def grown (h:IH) (k f:Nat) (cs:List Value) (t:Nat) (above below:List Nat) (cs':List Value) (t':Nat):IH :=
 { h with n:=h.n+1,ext:=((IH.killAll h.ext above).set k (.cells cs t (some f))).set h.n (.cells cs' t' (some f)),fams:=h.fams.set f (h.n :: k :: below) }
def append (P:Program) (h:IH) (st:TypeId) (s x:Value):Option (Value×IH) :=
 match P.underlying st with
 | some (.slice elem)=>match sizeT P elem,bytesT P elem,zeroCellsT P elem,lenOf x with
  | some size,some bytes,some zs,some n =>
   bif n == 0 then (match s with|.slice none a c=>bif a == 0 && c == 0 then some (s,h) else none|.slice (some ⟨_,_,none⟩) _ _=>some (s,h)|_=>none) else
   bif size == 0 || (!(Nat.ble bytes 65536) || !(zs.length == size)) then none else
   match firstOf h size n x with
   | none=>none
   | some new=>bif !(new.all cellOK) then none else match s with
    | .slice none a c=>bif a == 0 && c == 0 && Nat.ble (n*(bytes+1)) sizeMost then some (.slice (some ⟨2*h.n,0,none⟩) n (2*n),h.new (.cells new size none)) else none
    | .slice (some ⟨b,o,none⟩) len k =>
     bif !(Nat.ble ((len+n)*(bytes+1)) sizeMost) then none else
     bif Nat.ble (len+n) (k / 2) then (h.wr b (o+len*size) new).map fun h=>(.slice (some ⟨b,o,none⟩) (len+n) k,h)
     else bif k % 2 == 1 then
      match firstOf h size len s with
      | none=>none
      | some old=>some (.slice (some ⟨2*h.n,0,none⟩) (len+n) (2*(len+n)),h.new (.cells (old ++ new) size none))
     else bif len == k / 2 && Nat.blt 0 len && b % 2 == 0 then
      match h.ext.get (b / 2) with
      | some (.cells cs t fam) =>
       bif o+len*size == cs.length && t == size then
        match fam with
        | none=>some (.slice (some ⟨2*h.n,0,none⟩) (len+n) (2*(len+n)),grown h (b / 2) h.n cs t [] [] (cs.drop o ++ new) size)
        | some f=>match h.fams.get f with
         | none=>none
         | some stk=>some (.slice (some ⟨2*h.n,0,none⟩) (len+n) (2*(len+n)),
           grown h (b / 2) f cs t (stk.takeWhile (· != b / 2)) ((stk.dropWhile (· != b / 2)).drop 1) (cs.drop o ++ new) size)
       else none
      | _=>none
     else none
    | _=>none
  | _,_,_,_=>none
 | _=>none
def fieldOf (P:Program) (t:TypeId) (f:Nat):Option Field :=
 match P.underlying t with
 | some (.struct fs)=>fs[f]?
 | _=>none
def partOf (P:Program) (t:TypeId) (cs:Array Value) (off:Nat):Option Value :=
 match isAggT P t,sizeT P t with
 | some true,some n=>some (.agg (cs.extract off (off+n)))
 | some false,_=>cs[off]?
 | _,_=>none
def nilEqV:TypeDesc→Value→Value→Option Bool
 | .slice _,.slice none _ _,.slice none _ _=>some true
 | .slice _,.slice none _ _,.slice (some _) _ _=>some false
 | .slice _,.slice (some _) _ _,.slice none _ _=>some false
 | .map _ _,.map none,.map none=>some true
 | .map _ _,.map none,.map (some _)=>some false
 | .map _ _,.map (some _),.map none=>some false
 | .func _ _ _,.nilFunc,.nilFunc=>some true
 | .func _ _ _,.nilFunc,.func _ _ _=>some false
 | .func _ _ _,.func _ _ _,.nilFunc=>some false
 | .pointer _,.pointer none,.pointer none=>some true
 | .pointer _,.pointer none,.pointer (some _)=>some false
 | .pointer _,.pointer (some _),.pointer none=>some false
 | _,_,_=>none
def nilEq (P:Program) (t:TypeId) (x y:Value):Option Bool :=
 match P.underlying t with
 | some d=>nilEqV d x y
 | none=>none
def binop (P:Program) (op:BinOp) (t:TypeId) (ox oy:Operand) (x y:Value):Option Value :=
 bif plain x && plain y then pureVal P (do eqGuard op t ox oy x y;Go.binOp op t x y)
 else match op with
  | .eql=>(nilEq P t x y).map .bool
  | .neq=>(nilEq P t x y).map fun b=>.bool !b
  | _=>none
def placeOf (P:Program) (t:TypeId) (i:Nat):Option (Nat×Nat) :=
 match P.underlying t with
 | some (.struct fs)=>match fs[i]? with
  | some f=>(sizeT P f.type).map fun n=>(f.offset,n)
  | none=>none
 | some (.array _ e)=>(sizeT P e).map fun n=>(i*n,n)
 | _=>none
def allSized (P:Program) (t:TypeId):Bool :=
 match P.underlying t with
 | some (.struct fs)=>fs.all fun f=>(P.info? f.type).isSome
 | some (.array _ e)=>(P.info? e).isSome
 | _=>false
def partsOf (fr:Fr):List (Nat×Operand)→Option (List (Nat×Value))
 | []=>some []
 | (i,x) :: l=>match opd fr x,partsOf fr l with
  | some v,some vs=>some ((i,v) :: vs)
  | _,_=>none
def keyEntries (es:List (Value×Value)):List MapEntry:=es.map fun e => { key:=e.1,val:=.nilIface,born:=0 }
def mapOf (h:IH) (k:Nat):Option (List (Value×Value)) :=
 bif k % 2 == 1 then none else match h.ext.get (k / 2) with
 | some (.map es)=>some es
 | _=>none
def findK (P:Program) (kt:TypeId) (k:Value) (es:List (Value×Value)):Option (Option Nat) :=
 bif plain k then
  match pureRun P (Instr.checkKey es.isEmpty 10000 kt k),pureRun P (Instr.findKey kt k (keyEntries es)) with
  | some (),some r=>some (r.map (·.1))
  | _,_=>none
 else none
def entriesOf (h:IH):Value→Option (List (Value×Value))
 | .map none=>some []
 | .map (some r)=>mapOf h r
 | _=>none
def okUnit:Option Unit→Bool
 | some _=>true
 | none=>false
def lookup (P:Program) (h:IH) (mt:TypeId) (m k:Value) (ok:Bool):Option Value :=
 match P.underlying mt with
 | some (.map kt et) =>
  match entriesOf h m with
  | none=>none
  | some es=>match findK P kt k es with
   | none=>none
   | some none=>match zeroT P et with
    | some z=>bif plain z then some (bif ok then .tuple #[z,.bool false] else z) else none
    | none=>none
   | some (some i)=>(es[i]?).map fun e=>bif ok then .tuple #[e.2,.bool true] else e.2
 | _=>none
def mapUpdate (P:Program) (h:IH) (mt:TypeId) (m k v:Value):Option IH :=
 match P.underlying mt,m with
 | some (.map kt _),.map (some r) =>
  match mapOf h r with
  | none=>none
  | some es =>
   bif okUnit (pureRun P (Instr.checkKey false 10000 kt k)) then
   match findK P kt k es with
   | none=>none
   | some none=>some { h with ext:=h.ext.set (r / 2) (.map (es ++ [(k,v)])) }
   | some (some i)=>match es[i]? with
    | some e=>bif Instr.sameBits 10000 e.1 k then some { h with ext:=h.ext.set (r / 2) (.map (es.set i (k,v))) } else none
    | none=>none
   else none
 | _,_=>none
def makeSlice (P:Program) (h:IH) (t:TypeId) (l c:Value):Option (Value×IH) :=
 match P.underlying t with
 | some (.slice e)=>match natOf l sizeMost,natOf c sizeMost,sizeT P e,bytesT P e,zeroCellsT P e with
  | some l,some c,some n,some by_,some z =>
   bif Nat.ble l c && Nat.ble (c*(by_+1)) sizeMost && z.length == n then
    some (.slice (some ⟨2*h.n,0,none⟩) l (2*c+1),h.new (.cells (repl c z) n none))
   else none
  | _,_,_,_,_=>none
 | _=>none
def buildSlice (P:Program) (h:IH) (t:TypeId) (len:Nat) (parts:List (Nat×Value)):Option (Value×IH) :=
 match P.underlying t with
 | some (.slice e)=>match sizeT P e,zeroCellsT P e with
  | some n,some z=>bif Nat.ble (len*n) cellsMost && z.length == n then
    match fillP (fun i=>some (i*n,n)) (repl len z) parts with
    | some cells=>some (.slice (some ⟨2*h.n,0,none⟩) len (2*len+1),h.new (.cells cells n none))
    | none=>none
   else none
  | _,_=>none
 | _=>none
def indexAddr (P:Program) (t:TypeId) (x i:Value):Option Value :=
 match P.underlying t,x,idxOf i with
 | some (.array n e),.pointer (some ⟨b,o,none⟩),some i=>match sizeT P e,i with
  | some size,.ofNat j=>bif Nat.blt j n then some (.pointer (some ⟨b,o+j*size,none⟩)) else none
  | _,_=>none
 | some (.slice e),.slice (some ⟨b,o,none⟩) n _,some i=>match sizeT P e,i with
  | some size,.ofNat j=>bif Nat.blt j n then some (.pointer (some ⟨b,o+j*size,none⟩)) else none
  | _,_=>none
 | _,_,_=>none
def roomy (h:IH) (size:Nat) (x:Value):Bool :=
 match x with
 | .slice (some ⟨b,_,_⟩) _ _=>b % 2 == 0 && (match h.ext.get (b / 2) with
  | some (.cells _ e _)=>e == size
  | _=>false)
 | _=>false
def sliceOp (P:Program) (h:IH) (t:TypeId) (x:Value) (lo hi mx:Option Value):Option Value :=
 match P.underlying t with
 | some (.slice e)=>match sizeT P e with
  | some size=>resliced size (roomy h size x) x lo hi mx
  | none=>none
 | some (.array n e)=>match sizeT P e,asAddr x with
  | some size,some (b,o)=>resliced size false (.slice (some ⟨b,o,none⟩) n (2*n+1)) lo hi mx
  | _,_=>none
 | some (.pointer arr)=>match P.underlying arr with
  | some (.array n e)=>match sizeT P e,asAddr x with
   | some size,some (b,o)=>resliced size false (.slice (some ⟨b,o,none⟩) n (2*n+1)) lo hi mx
   | _,_=>none
  | _=>none
 | some .string=>bif plain x && (lo.all plain && hi.all plain && mx.all plain) then pureVal P (Instr.slice t x lo hi mx) else none
 | _=>none
def optOpd (fr:Fr):Option Operand→Option (Option Value)
 | none=>some none
 | some x=>(opd fr x).map some
def copyOp (P:Program) (h:IH) (dt:TypeId) (d s:Value):Option (Value×IH) :=
 match P.underlying dt,lenOf d,lenOf s with
 | some (.slice e),some dn,some sn=>match sizeT P e with
  | some size =>
   let n:=Nat.min sn dn
   match firstOf h size n s with
   | none=>none
   | some cs=>match d with
    | .slice none _ _=>some (.int .i64 n,h)
    | .slice (some ⟨b,o,none⟩) _ _=>bif cs.isEmpty then some (.int .i64 n,h) else bif !(cs.all cellOK) then none else (h.wr b o cs).map fun h=>(.int .i64 n,h)
    | _=>none
  | none=>none
 | _,_,_=>none
def clearOp (P:Program) (h:IH) (t:TypeId) (x:Value):Option (Value×IH) :=
 match P.underlying t,x with
 | some (.slice _),.slice none _ _=>some (.tuple #[],h)
 | some (.slice e),.slice (some ⟨b,o,none⟩) n _=>bif n == 0 then some (.tuple #[],h) else
  match zeroCellsT P e with
  | some z=>bif z.isEmpty || !(z.all cellOK) then none else (h.wr b o (repl n z)).map fun h=>(.tuple #[],h)
  | none=>none
 | _,_=>none
def capB (P:Program) (t:TypeId) (x:Value):Option Value :=
 match P.underlying t,x with
 | some (.slice _),.slice none _ _=>some (.int .i64 0)
 | some (.slice _),.slice (some _) _ k=>bif k % 2 == 1 then some (.int .i64 ((k / 2:Nat):Int)) else none
 | _,_=>none
def lenB (P:Program) (h:IH) (t:TypeId) (x:Value):Option Value :=
 match P.underlying t,x with
 | some .string,.string s=>some (.int .i64 s.size)
 | some (.array n _),_=>some (.int .i64 n)
 | some (.pointer a),_=>match P.underlying a with
  | some (.array n _)=>some (.int .i64 n)
  | _=>none
 | some (.slice _),.slice _ n _=>some (.int .i64 n)
 | some (.map _ _),.map none=>some (.int .i64 0)
 | some (.map _ _),.map (some r)=>(mapOf h r).map fun es=>.int .i64 es.length
 | _,_=>none
def isSliceT (P:Program) (t:Option TypeId):Bool :=
 match t with
 | some t=>match P.underlying t with
  | some (.slice _)=>true
  | _=>false
 | none=>false
def builtin (P:Program) (h:IH) (b:Builtin) (ts:Array TypeId) (args:List Value):Option (Value×IH) :=
 match b,args with
 | .len,[x]=>match ts[0]? with
  | some t=>(lenB P h t x).map (·,h)
  | none=>none
 | .append,[s,x]=>bif isSliceT P ts[1]? then
   (match ts[0]? with|some st=>append P h st s x|none=>none) else none
 | .copy,[d,s]=>match ts[0]? with
  | some dt=>copyOp P h dt d s
  | none=>none
 | .clear,[x]=>match ts[0]? with
  | some t=>clearOp P h t x
  | none=>none
 | .cap,[x]=>match ts[0]? with
  | some t=>(capB P t x).map (·,h)
  | none=>none
 | .max,_=>bif args.all plain then (pureVal P (Builtin.max_ ts 0 args.toArray)).map (·,h) else none
 | .min,_=>bif args.all plain then (pureVal P (Builtin.min_ ts 0 args.toArray)).map (·,h) else none
 | _,_=>none
def iop (P:Program) (fr:Fr) (o:Op) (h:IH):Option (Value×IH) :=
 match o with
 | .move x|.assign x=>(opd fr x).map (·,h)
 | .pick c a b=>match opd fr c with
  | some (.bool true)=>(opd fr a).map (·,h)
  | some (.bool false)=>(opd fr b).map (·,h)
  | _=>none
 | .alloc t=>(zeroCellsT P t).map fun z=>(ptr (2*h.n) 0,h.new (.cells z 0 none))
 | .box t x=>(opd fr x).map fun v=>(ptr (2*h.n) 0,h.new (.cells v.cells.toList 0 none))
 | .build t parts=>match zeroCellsT P t,partsOf fr parts.toList with
  | some z,some ps=>bif allSized P t then (fillP (placeOf P t) z ps).map fun cs=>(.agg cs.toArray,h) else none
  | _,_=>none
 | .buildSlice t len parts=>match partsOf fr parts.toList with
  | some ps=>buildSlice P h t len ps
  | none=>none
 | .load t a=>match opd fr a with
  | some a=>(load P h t a).map (·,h)
  | none=>none
 | .store t a x=>match opd fr a,opd fr x with
  | some a,some v=>(store P h t a v).map (undef,·)
  | _,_=>none
 | .nilCheck x=>match opd fr x with
  | some (.pointer (some a))=>some (.pointer (some a),h)
  | some (.func (.func f) xs ys)=>some (.func (.func f) xs ys,h)
  | some (.func (.yield f) xs ys)=>some (.func (.yield f) xs ys,h)
  | some (.map r)=>some (.map r,h)
  | _=>none
 | .binOp op t x y _=>match opd fr x,opd fr y with
  | some a,some b=>(binop P op t x y a b).map (·,h)
  | _,_=>none
 | .unOp op _ x=>match opd fr x with
  | some v=>bif plain v then (pureVal P (Op.unary op v)).map (·,h) else none
  | none=>none
 | .convert s d x=>match opd fr x with
  | some v=>bif plain v then (pureVal P (Go.convert s d v)).map (·,h) else none
  | none=>none
 | .sliceToArrayPointer t x=>match P.underlying t,opd fr x with
  | some (.array n _),some (.slice (some ⟨b,o,none⟩) len k)=>bif Nat.ble n len && Nat.blt 0 k then some (.pointer (some ⟨b,o,none⟩),h) else none
  | _,_=>none
 | .makeFunc fn first cap=>match opds fr first.toList,opds fr cap.toList with
  | some a,some b=>match fn with
   | .func f=>some (.func (.func f) a.toArray b.toArray,h)
   | _=>none
  | _,_=>none
 | .makeMap t r=>match r with
  | none=>some (.map (some (2*h.n)),h.new (.map []))
  | some x=>match opd fr x,P.underlying t with
   | some (.int _ _),some (.map _ _)=>some (.map (some (2*h.n)),h.new (.map []))
   | _,_=>none
 | .makeSlice t l c=>match opd fr l,opd fr c with
  | some l,some c=>makeSlice P h t l c
  | _,_=>none
 | .slice t x lo hi mx=>match opd fr x,optOpd fr lo,optOpd fr hi,optOpd fr mx with
  | some x,some lo,some hi,some mx=>(sliceOp P h t x lo hi mx).map (·,h)
  | _,_,_,_=>none
 | .fieldAddr t x f=>match opd fr x,fieldOf P t f with
  | some x,some f=>match asAddr x,sizeT P f.type with
   | some (b,o),some n=>bif n == 0 then none else some (ptr b (o+f.offset),h)
   | _,_=>none
  | _,_=>none
 | .field t x f=>match opd fr x,fieldOf P t f with
  | some (.agg cs),some f=>(partOf P f.type cs f.offset).map (·,h)
  | _,_=>none
 | .indexAddr t x i=>match opd fr x,opd fr i with
  | some x,some i=>(indexAddr P t x i).map (·,h)
  | _,_=>none
 | .index t x i=>match opd fr x,opd fr i with
  | some (.agg cs),some i=>match P.underlying t,idxOf i with
   | some (.array n e),some (.ofNat j)=>bif Nat.blt j n then match sizeT P e with
     | some size=>(partOf P e cs (j*size)).map (·,h)
     | none=>none
    else none
   | _,_=>none
  | some (.string s),some i=>bif plain i then (pureVal P (Instr.index t (.string s) i)).map (·,h) else none
  | _,_=>none
 | .lookup t m k ok=>match opd fr m,opd fr k with
  | some m,some k=>(lookup P h t m k ok).map (·,h)
  | _,_=>none
 | .mapUpdate t m k v|.insert t m k v=>match opd fr m,opd fr k,opd fr v with
  | some m,some k,some v=>(mapUpdate P h t m k v).map (undef,·)
  | _,_,_=>none
 | .extract x i=>match opd fr x with
  | some (.tuple vs)=>(vs[i]?).map (·,h)
  | _=>none
 | .range t x=>match P.underlying t,opd fr x with
  | some (.map _ _),some (.map (some k))=>(mapOf h k).map fun es=>(ptr (2*h.n) 0,h.new (.iter k es.length [] es.length))
  | _,_=>none
 | .entry x=>match opd fr x with
  | some (.pointer (some ⟨b,0,none⟩))=>bif b % 2 == 1 then none else match h.ext.get (b / 2) with
   | some (.iter k _ seen last)=>match mapOf h k,seen.getLast? with
    | some es,some i=>bif es.length == last then (es[i]?).map fun e=>(.tuple #[e.1,e.2],h) else none
    | _,_=>none
   | _=>none
  | _=>none
 | .call c=>match c.callee with
  | .builtin b=>match opds fr c.args.toList with
   | some vs=>builtin P h b c.argTypes vs
   | none=>none
  | _=>none
 | _=>none
end Go.Id

namespace Go.Id
open Go
structure Env where
 P:Program
 lv:FuncId→Nat→Option (List Nat)
 intr:FuncId→Option (List Value→IH→Option (Value×IH))
abbrev CallV:=Value→List Value→IH→Option (Value×IH)
def wantedI (ops:List Oper) (o:Oper) (fr:Fr):Option Bool :=
 match o.guard with
 | none=>some true
 | some (j,want)=>match (ops[j]?).bind (·.dst) with
  | some d=>match fget fr d with
   | some (.bool b)=>some (b == want)
   | some (.tuple _)=>some false
   | _=>none
  | none=>none
def runOp (E:Env) (call:CallV) (fr:Fr) (o:Op) (h:IH):Option (Value×IH) :=
 match o with
 | .call c=>match c.callee with
  | .value f=>match opd fr f,opds fr c.args.toList with
   | some fv,some vs=>call fv vs h
   | _,_=>none
  | _=>iop E.P fr (.call c) h
 | o=>iop E.P fr o h
def stepOp (E:Env) (call:CallV) (nt:Nat) (ops:List Oper) (o:Oper) (fr:Fr) (h:IH):Option (Fr×IH) :=
 match wantedI ops o fr with
 | some true=>match runOp E call fr o.op h with
  | some (v,h)=>(fput nt fr o.dst v).map (·,h)
  | none=>none
 | some false=>(fput nt fr o.dst undef).map (·,h)
 | none=>none
def runOps (E:Env) (call:CallV) (nt:Nat) (ops:List Oper):List Oper→Fr→IH→Option (Fr×IH)
 | [],fr,h=>some (fr,h)
 | o :: l,fr,h=>match stepOp E call nt ops o fr h with
  | some (fr,h)=>runOps E call nt ops l fr h
  | none=>none
inductive OpKind where
 | pure|load|alloc|chain
 deriving DecidableEq
def kindOf:Op→OpKind
 | .move _|.assign _|.pick _ _ _|.build _ _|.nilCheck _|.binOp _ _ _ _ _|.unOp _ _ _|.convert _ _ _|.sliceToArrayPointer _ _|.makeFunc _ _ _|.fieldAddr _ _ _|.field _ _ _
 | .indexAddr _ _ _|.index _ _ _|.extract _ _=>.pure
 | .load _ _|.lookup _ _ _ _|.slice _ _ _ _ _=>.load
 | .alloc _|.box _ _|.buildSlice _ _ _|.makeMap _ _|.makeSlice _ _ _=>.alloc
 | .call c=>match c.callee with
  | .builtin .len=>.load
  | .builtin .max=>.pure
  | .builtin .min=>.pure
  | _=>.chain
 | _=>.chain
def maskOf (acc:List Nat) (o:Oper):Nat:=o.after.toList.foldr (fun e s=>bif Region.binds .any e then s ||| 2 ^ e.on ||| acc.getD e.on 0 else s) 0
def masks:List Nat→List Oper→List Nat
 | acc,[]=>acc
 | acc,o :: l=>masks (acc ++ [maskOf acc o]) l
def tmpsOf (l:List Operand):List Nat:=l.filterMap fun x=>match x with|.tmp t=>some t|_=>none
def reads (ops:List Oper) (o:Oper):List Nat :=
 tmpsOf o.op.operands.toList ++ (match o.guard with|some (g,_)=>((ops[g]?).bind (·.dst)).toList|none => [])
def clash (ops:List Oper) (x y:Oper):Bool :=
 (match x.dst with|some d=>y.dst == some d || (reads ops y).contains d|none=>false) || (match y.dst with|some d=>(reads ops x).contains d|none=>false)
def orderOK (ops:List Oper):Bool :=
 let ms:=masks [] ops
 (List.range ops.length).all fun j=>match ops[j]? with
  | none=>true
  | some y =>
   y.after.toList.all (fun e => !Region.binds .any e || Nat.blt e.on j) &&
   (match y.guard with|none=>true|some (g,_)=>(ms.getD j 0).testBit g) &&
   (List.range j).all fun i=>match ops[i]? with
    | none=>true
    | some x=>(ms.getD j 0).testBit i || !(clash ops x y || (kindOf x.op == .chain && kindOf y.op == .chain))
def plan (ops:List Oper):List (Nat×List Nat) :=
 let ms:=masks [] ops
 let chain:=(List.range ops.length).filter fun k=>match ops[k]? with|some o=>kindOf o.op == .chain|none=>false
 (List.range ops.length).filterMap fun i=>match ops[i]? with
  | none=>none
  | some o=>bif kindOf o.op == .load then
    some (i,(chain ++ [ops.length]).filter fun p =>
     chain.all fun k=>bif Nat.blt k p then !(ms.getD k 0).testBit i else !(ms.getD i 0).testBit k)
   else none
def trace (E:Env) (call:CallV) (nt:Nat) (ops:List Oper):List Oper→Fr→IH→Option (List (Fr×IH))
 | [],fr,h=>some [(fr,h)]
 | o :: l,fr,h=>match stepOp E call nt ops o fr h with
  | some (fr',h')=>(trace E call nt ops l fr' h').map ((fr,h) :: ·)
  | none=>none
def eqS:Value→Value→Bool
 | .bool a,.bool b=>a == b
 | .int j a,.int k b=>j == k && a == b
 | .string a,.string b=>a.data.toList == b.data.toList
 | .pointer a,.pointer b=>a == b
 | .slice a n c,.slice b m d=>a == b && n == m && c == d
 | .map a,.map b=>a == b
 | .nilFunc,.nilFunc=>true
 | .nilIface,.nilIface=>true
 | _,_=>false
def eqL:List Value→List Value→Bool
 | [],[]=>true
 | a :: l,b :: m=>eqS a b && eqL l m
 | _,_=>false
def eqA:Value→Value→Bool
 | .agg a,.agg b=>eqL a.toList b.toList
 | .func f a c,.func g b d=>f == g && eqL a.toList b.toList && eqL c.toList d.toList
 | a,b=>eqS a b
def eqT:List Value→List Value→Bool
 | [],[]=>true
 | a :: l,b :: m=>eqA a b && eqT l m
 | _,_=>false
def eqV0:Value→Value→Bool
 | .tuple a,.tuple b=>eqT a.toList b.toList
 | a,b=>eqA a b
noncomputable def eqV (a b:Value):Bool:=eqV0 a b || @decide (a=b) (Classical.propDecidable _)
theorem eqV_refl (a:Value):eqV a a=true:=by simp[eqV]
noncomputable section
def steadyAt (P:Program) (fr:Fr) (o:Op) (h h':IH):Bool :=
 match iop P fr o h,iop P fr o h' with
 | some (v,_),some (v',_)=>eqV v v'
 | _,_=>false
def steady (P:Program) (ops:List Oper) (tr:List (Fr×IH)) (pl:List (Nat×List Nat)):Bool :=
 pl.all fun e=>match ops[e.1]?,tr[e.1]? with
  | some o,some (fr,h)=>match wantedI ops o fr with
   | some true=>e.2.all fun p=>match tr[p]? with
    | some (_,h')=>steadyAt P fr o.op h h'
    | none=>false
   | _=>true
  | _,_=>false
def runDrawn (E:Env) (call:CallV) (nt:Nat) (ops:List Oper) (fr:Fr) (h:IH):Option (Fr×IH) :=
 match trace E call nt ops ops fr h with
 | none=>none
 | some tr=>bif orderOK ops && steady E.P ops tr (plan ops) then tr[ops.length]? else none
inductive IExit where
 | normal
 | exit (id:Nat)
 | ret
abbrev Out:=Option (IExit×Fr×IH)
def loopN (b:Fr→IH→Out):Nat→Fr→IH→Out
 | 0,_,_=>none
 | n+1,fr,h=>match b fr h with
  | some (.normal,fr,h)=>loopN b n fr h
  | some (.exit i,fr,h)=>some (.exit i,fr,h)
  | some (.ret,fr,h)=>some (.ret,fr,h)
  | none=>none
def headFr (E:Env) (fn:FuncId) (id:Nat) (fr:Fr):Fr :=
 match E.lv fn id with
 | some l=>keepOnly fr l
 | none=>fr
def loopOf (h:IH) (k:Nat):Option ILoop :=
 match h.ext.get k with
 | some (.loop r)=>some r
 | _=>none
def exitOf:Option Code→Option IExit
 | none=>some .normal
 | some (.exit i)=>some (.exit i)
 | some .ret=>some .ret
 | _=>none
def roundOK (h:IH):Option Nat→Bool
 | none=>true
 | some l=>(loopOf h l).isSome
def rangeFn (E:Env) (call:CallV) (fn:FuncId) (nt:Nat) (rd:Option Nat) (f:Operand) (params:List Nat) (assign body:Code) (fr:Fr) (h:IH):Out :=
 match (bif roundOK h rd then opd fr f else none) with
 | none=>none
 | some fv =>
  match call fv [.func (.yield (2*h.n)) #[] #[]] (h.new (.loop { state:=.ready,pending:=none,fn,nt,fr,params,assign,body })) with
  | none=>none
  | some (_,h1)=>match loopOf h1 h.n with
   | none=>none
   | some r=>bif r.state == .busy then none else match exitOf r.pending with
    | none=>none
    | some e=>some (e,fr,{ h1 with ext:=h1.ext.set h.n .dead })
def nextOf (ops:List Oper) (draw:Bool):Option (Nat×Nat×Nat) :=
 match draw,ops with
 | false,[⟨some nx,.next (.tmp it) false,_,_,_,none⟩,⟨some more,.extract (.tmp x) 0,_,_,_,none⟩]=>bif x == nx then some (it,nx,more) else none
 | _,_=>none
def putNext (nt nx more:Nat) (v:Value) (b:Bool) (fr:Fr):Option Fr :=
 match fput nt fr (some nx) v with
 | some fr=>fput nt fr (some more) (.bool b)
 | none=>none
def iterOK (fr:Fr) (h:IH) (it kb k:Nat) (es:List (Value×Value)) (seen:List Nat):Prop :=
 fget fr it=some (ptr (2*kb) 0)∧h.ext.get kb=some (.iter k es.length seen es.length)∧mapOf h k=some es
open Classical in
def mapRounds (rest:Fr→IH→Out) (hd:Fr→Fr) (nt it nx more kb k:Nat) (es:List (Value×Value)):List Nat→List Nat→Fr→IH→Out
 | [],seen,fr,h=>if iterOK (hd fr) h it kb k es seen then
   match putNext nt nx more (.tuple #[.bool false]) false (hd fr) with
   | none=>none
   | some fr=>match rest fr h with
    | some (.normal,_,_)=>none
    | o=>o
  else none
 | i :: l,seen,fr,h=>if iterOK (hd fr) h it kb k es seen then
   match es[i]? with
   | none=>none
   | some e=>match putNext nt nx more (.tuple #[.bool true,e.1,e.2]) true (hd fr) with
    | none=>none
    | some fr=>match rest fr { h with ext:=h.ext.set kb (.iter k es.length (seen ++ [i]) es.length) } with
     | some (.normal,fr,h)=>mapRounds rest hd nt it nx more kb k es l (seen ++ [i]) fr h
     | o=>o
  else none
open Classical in
def common (nt n:Nat) (R:List Nat→Out):Out :=
 if c : ∃o:IExit×IH,∀l:List Nat,l.Perm (List.range n) → ∃fr,R l=some (o.1,fr,o.2) then
  some (c.choose.1,(List.range nt).filterMap (fun t=>if d : ∃v,∀l:List Nat,l.Perm (List.range n) → ∀e fr h,R l=some (e,fr,h)→fget fr t=some v then some (t,d.choose) else none),c.choose.2)
 else none
def killIter (kb:Nat):Out→Out
 | none=>none
 | some p=>match p.2.2.ext.get kb with
  | some (.iter _ _ _ _)=>some (p.1,p.2.1,{ p.2.2 with ext:=p.2.2.ext.set kb .dead })
  | _=>none
open Classical in
def mapLoop (rest:Fr→IH→Out) (hd:Fr→Fr) (nt it nx more:Nat) (fr:Fr) (h:IH):Out :=
 match fget (hd fr) it with
 | some (.pointer (some ⟨b,0,none⟩))=>bif b % 2 == 1 then none else match h.ext.get (b / 2) with
  | some (.iter k _ _ _)=>match mapOf h k with
   | some es=>common nt es.length fun l=>if l.Perm (List.range es.length) then killIter (b / 2) (mapRounds rest hd nt it nx more (b / 2) k es l [] fr h) else none
   | none=>none
  | _=>none
 | _=>none
def evC (E:Env) (call:CallV) (fn:FuncId) (nt:Nat) (rd:Option Nat) (n:Nat):Code→Fr→IH→Out
 | .skip,fr,h=>some (.normal,fr,h)
 | .label _,fr,h=>some (.normal,fr,h)
 | .region id ops draw,fr,h =>
  match (bif draw then runDrawn E call nt ops.toList (headFr E fn id fr) h else runOps E call nt ops.toList ops.toList (headFr E fn id fr) h) with
  | some (fr,h)=>some (.normal,fr,h)
  | none=>none
 | .seq a b,fr,h=>match evC E call fn nt rd n a fr h with
  | some (.normal,fr,h)=>evC E call fn nt rd n b fr h
  | some (.exit i,fr,h)=>some (.exit i,fr,h)
  | some (.ret,fr,h)=>some (.ret,fr,h)
  | none=>none
 | .cond c a b,fr,h=>match opd fr c with
  | some (.bool true)=>evC E call fn nt rd n a fr h
  | some (.bool false)=>evC E call fn nt rd n b fr h
  | _=>none
 | .block id b,fr,h=>match evC E call fn nt rd n b fr h with
  | some (.exit i,fr,h)=>bif i == id then some (.normal,fr,h) else some (.exit i,fr,h)
  | some (.normal,fr,h)=>some (.normal,fr,h)
  | some (.ret,fr,h)=>some (.ret,fr,h)
  | none=>none
 | .loop b,fr,h=>match b with
  | .seq (.region id ops draw) rest=>match nextOf ops.toList draw with
   | some (it,nx,more)=>mapLoop (evC E call fn nt rd n rest) (headFr E fn id) nt it nx more fr h
   | none=>loopN (evC E call fn nt rd n (.seq (.region id ops draw) rest)) n fr h
  | b=>loopN (evC E call fn nt rd n b) n fr h
 | .scope b,fr,h=>evC E call fn nt rd n b fr h
 | .rangeFunc f ps a b,fr,h=>rangeFn E call fn nt rd f ps.toList a b fr h
 | .exit i,fr,h=>some (.exit i,fr,h)
 | .ret,fr,h=>some (.ret,fr,h)
 | .goto _,_,_=>none
 | .refuse _,_,_=>none
def resultOf (P:Program) (fr:Fr) (h:IH):ResultVar→Option Value
 | .tmp t=>fget fr t
 | .cell a t=>match fget fr a with
  | some v=>load P h t v
  | none=>none
def resultsOf (P:Program) (fr:Fr) (h:IH):List ResultVar→Option (List Value)
 | []=>some []
 | r :: l=>match resultOf P fr h r,resultsOf P fr h l with
  | some v,some vs=>some (v :: vs)
  | _,_=>none
def single:List Value→Value
 | [v]=>v
 | vs=>.tuple vs.toArray
def carryI (name:String) (args:List Value):Option Value :=
 match args with
 | [.int .u64 (.ofNat x),.int .u64 (.ofNat y),.int .u64 (.ofNat c)]=>bif Nat.ble c 1 then
   (bif name == "math/bits.Add64" then some (.tuple #[.int .u64 ((x+y+c) % 18446744073709551616:Nat),.int .u64 ((x+y+c) / 18446744073709551616:Nat)])
    else bif name == "math/bits.Sub64" then some (.tuple #[.int .u64 ((x+18446744073709551616 - y - c) % 18446744073709551616:Nat),.int .u64 ((bif Nat.blt x (y+c) then 1 else 0:Nat))]) else none)
  else none
 | _=>none
def callFn (E:Env) (call:CallV) (n:Nat) (f:FuncId) (args:List Value) (h:IH):Option (Value×IH) :=
 match E.intr f with
 | some g=>g args h
 | none=>match E.P.funcs[f]? with
  | none=>none
  | some fn=>match fn.body with
   | none=>(carryI fn.name args).map (·,h)
   | some c=>bif Nat.ble args.length fn.ntmps then
     match evC E call f fn.ntmps none n c (enterFr 0 args) h with
     | some (.exit _,_,_)=>none
     | some (_,fr,h)=>(resultsOf E.P fr h fn.results.toList).map fun vs=>(single vs,h)
     | none=>none
    else none
def putParams (nt:Nat):List Nat→List Value→Fr→Option Fr
 | [],[],fr=>some fr
 | t :: l,v :: vs,fr=>match fput nt fr (some t) v with
  | some fr=>putParams nt l vs fr
  | none=>none
 | _,_,_=>none
def callYield (E:Env) (call:CallV) (n:Nat) (l:Nat) (args:List Value) (h:IH):Option (Value×IH) :=
 match loopOf h l with
 | none=>none
 | some r=>match putParams r.nt r.params args r.fr with
  | none=>none
  | some fr=>match evC E call r.fn r.nt (some l) n r.assign fr h with
   | some (.normal,fr,h)=>match loopOf h l with
    | none=>none
    | some r1=>bif r1.state == .ready then
      match evC E call r.fn r.nt (some l) n r.body fr { h with ext:=h.ext.set l (.loop { r1 with state:=.busy }) } with
      | none=>none
      | some (e,_,h)=>match loopOf h l with
       | none=>none
       | some r2=>match e with
        | .normal=>some (.bool true,{ h with ext:=h.ext.set l (.loop { r2 with state:=.ready,pending:=none }) })
        | .exit i=>some (.bool false,{ h with ext:=h.ext.set l (.loop { r2 with state:=.done,pending:=some (.exit i) }) })
        | .ret=>some (.bool false,{ h with ext:=h.ext.set l (.loop { r2 with state:=.done,pending:=some .ret }) })
     else none
   | _=>none
def callV (E:Env):Nat→CallV
 | 0,_,_,_=>none
 | n+1,fv,vs,h=>match fv with
  | .func (.func f) first cap=>callFn E (callV E n) n f (first.toList ++ (vs ++ cap.toList)) h
  | .func (.yield l) first _=>bif l % 2 == 0 then callYield E (callV E n) n (l / 2) (first.toList ++ vs) h else none
  | _=>none
end
end Go.Id

namespace Go.Id
open Go Go.RowKit
structure Mp where
 at_:Nat→Option (Nat×Nat)
 ez:Nat→Nat×Nat
instance:CoeFun Mp fun _=>Nat→Option (Nat×Nat):=⟨Mp.at_⟩
def Mp.le (m m':Mp):Prop:=∀b x,m b=some x→m' b=some x∧m'.ez b=m.ez b
theorem Mp.le_refl (m:Mp):m.le m:=fun _ _ h=>⟨h,rfl⟩
theorem Mp.le_trans {a b c:Mp} (h:a.le b) (k:b.le c):a.le c:=fun x y e=>let ⟨p,q⟩:=h x y e;let ⟨r,s⟩:=k x y p;⟨r,s.trans q⟩
def FnRel (m:Mp):Fn→Fn→Prop
 | .yield l,.yield r => ∃s,m l=some (r,s)
 | .func f,.func g=>f=g
 | _,_=>False
inductive VRel (m:Mp):Value→Value→Prop where
 | scal {v:Value} (h:scal v=true):VRel m v v
 | ptr {b o r s:Nat} (h:m b=some (r,s)):VRel m (.pointer (some ⟨b,o,none⟩)) (.pointer (some ⟨r,s+o,none⟩))
 | slice {b o r s len k cap:Nat} (h:m b=some (r,s)) (hk0:0<k) (hl:len≤k / 2) (hk:k / 2≤cap) (hx:k % 2=1→cap=k / 2) (hz:k % 2=0→s+o+cap*(m.ez b).1≤(m.ez b).2) :
   VRel m (.slice (some ⟨b,o,none⟩) len k) (.slice (some ⟨r,s+o,none⟩) len cap)
 | lost {b o cap:Nat} {a:Addr}:VRel m (.slice (some ⟨b,o,none⟩) 0 0) (.slice (some a) 0 cap)
 | map {b r s:Nat} (h:m b=some (r,s)):VRel m (.map (some b)) (.map (some r))
 | func {fn fn':Fn} {xs xs' ys ys':Array Value} (hf:FnRel m fn fn') (hx:xs.size=xs'.size) (hy:ys.size=ys'.size)
   (h1 : ∀(i:Nat) (v v':Value),xs[i]?=some v→xs'[i]?=some v'→VRel m v v') (h2 : ∀(i:Nat) (v v':Value),ys[i]?=some v→ys'[i]?=some v'→VRel m v v'):VRel m (.func fn xs ys) (.func fn' xs' ys')
 | agg {cs cs':Array Value} (hs:cs.size=cs'.size) (h : ∀(i:Nat) (v v':Value),cs[i]?=some v→cs'[i]?=some v'→VRel m v v'):VRel m (.agg cs) (.agg cs')
 | tuple {cs cs':Array Value} (hs:cs.size=cs'.size) (h : ∀(i:Nat) (v v':Value),cs[i]?=some v→cs'[i]?=some v'→VRel m v v'):VRel m (.tuple cs) (.tuple cs')
theorem FnRel.mono {m m':Mp} (hm:m.le m') {f g:Fn} (h:FnRel m f g):FnRel m' f g:=by
 cases f<;>cases g<;>simp_all [FnRel]
 obtain⟨s,h⟩:=h;exact⟨s,(hm _ _ h).1⟩
theorem VRel.mono {m m':Mp} (hm:m.le m') {v v':Value} (h:VRel m v v'):VRel m' v v':=by
 induction h with
 | scal h=>exact .scal h
 | ptr h=>exact .ptr (hm _ _ h).1
 | slice h a b c d e=>exact .slice (hm _ _ h).1 a b c d (by rw[(hm _ _ h).2];exact e)
 | lost=>exact .lost
 | map h=>exact .map (hm _ _ h).1
 | func hf hx hy _ _ i1 i2=>exact .func (hf.mono hm) hx hy i1 i2
 | agg hs _ ih=>exact .agg hs ih
 | tuple hs _ ih=>exact .tuple hs ih
theorem VRel.scal_eq {m:Mp} {v v':Value} (h:VRel m v v') (hv:Id.scal v=true):v'=v:=by
 cases h<;>simp_all [Id.scal]
theorem VRel.undef (m:Mp):VRel m undef undef:=.tuple rfl (by simp)
def LRel (m:Mp) (l l':List Value):Prop:=l.length=l'.length ∧ ∀(i:Nat) (v v':Value),l[i]?=some v→l'[i]?=some v'→VRel m v v'
theorem LRel.nil (m:Mp):LRel m [] []:=⟨rfl,by simp⟩
theorem LRel.cons {m:Mp} {v v':Value} {l l':List Value} (h:VRel m v v') (t:LRel m l l'):LRel m (v :: l) (v' :: l'):=by
 refine⟨by simp[t.1],fun i x x' hx hx'=>?_⟩
 cases i with
 | zero=>simp at hx hx';subst hx;subst hx';exact h
 | succ i=>simp at hx hx';exact t.2 i x x' hx hx'
theorem LRel.mono {m m':Mp} (hm:m.le m') {l l':List Value} (h:LRel m l l'):LRel m' l l':=⟨h.1,fun i v v' a b=>(h.2 i v v' a b).mono hm⟩
theorem LRel.append {m:Mp} {a a' b b':List Value} (h:LRel m a a') (k:LRel m b b'):LRel m (a ++ b) (a' ++ b'):=by
 refine⟨by simp[h.1,k.1],fun i v v' hv hv'=>?_⟩
 by_cases hi:i<a.length
 ·rw[List.getElem?_append_left hi] at hv;rw[List.getElem?_append_left (h.1▸hi)] at hv'
  exact h.2 i v v' hv hv'
 ·rw[List.getElem?_append_right (by omega)] at hv;rw[List.getElem?_append_right (by have:=h.1;omega)] at hv'
  rw[←h.1] at hv'
  exact k.2 _ v v' hv hv'
theorem LRel.take {m:Mp} {a a':List Value} (h:LRel m a a') (n:Nat):LRel m (a.take n) (a'.take n):=by
 refine⟨by simp[h.1],fun i v v' hv hv'=>?_⟩
 rw[List.getElem?_take] at hv hv'
 by_cases hi:i<n
 ·simp only[hi,if_true] at hv hv';exact h.2 i v v' hv hv'
 ·simp[hi] at hv
theorem LRel.drop {m:Mp} {a a':List Value} (h:LRel m a a') (n:Nat):LRel m (a.drop n) (a'.drop n):=by
 refine⟨by simp[h.1],fun i v v' hv hv'=>?_⟩
 rw[List.getElem?_drop] at hv hv'
 exact h.2 _ v v' hv hv'
theorem LRel.get {m:Mp} {a a':List Value} (h:LRel m a a') {i:Nat} {v:Value} (hv:a[i]?=some v) : ∃v',a'[i]?=some v'∧VRel m v v':=by
 have hi:i<a.length:=by
  rcases Nat.lt_or_ge i a.length with h|h
  ·exact h
  ·rw[List.getElem?_eq_none h] at hv;cases hv
 have hi':i<a'.length:=h.1▸hi
 exact⟨a'[i],List.getElem?_eq_getElem hi',h.2 i v _ hv (List.getElem?_eq_getElem hi')⟩
theorem LRel.scal {m:Mp} {l l':List Value} (h:LRel m l l') (hs:l.all Id.scal=true):l'=l:=by
 apply List.ext_getElem? fun i=>?_
 by_cases hi:i<l.length
 ·obtain⟨v',h1,h2⟩:=h.get (List.getElem?_eq_getElem hi)
  rw[h1,List.getElem?_eq_getElem hi]
  rw[h2.scal_eq (by have:=List.all_eq_true.1 hs;exact this _ (List.getElem_mem hi))]
 ·rw[List.getElem?_eq_none (show l'.length≤i from h.1▸Nat.le_of_not_lt hi),List.getElem?_eq_none (Nat.le_of_not_lt hi)]
theorem LRel.scal_mk {m:Mp} {l:List Value} (hs:l.all Id.scal=true):LRel m l l:=by
 refine⟨rfl,fun i v v' a b=>?_⟩
 rw[a] at b;cases b
 exact .scal (List.all_eq_true.1 hs _ (List.mem_of_getElem? a))
theorem VRel.agg_iff {m:Mp} {cs cs':Array Value} (h:LRel m cs.toList cs'.toList):VRel m (.agg cs) (.agg cs') :=
 .agg (by simpa using h.1) (fun i v v' a b=>h.2 i v v' (by simpa using a) (by simpa using b))
theorem VRel.tuple_iff {m:Mp} {cs cs':Array Value} (h:LRel m cs.toList cs'.toList):VRel m (.tuple cs) (.tuple cs') :=
 .tuple (by simpa using h.1) (fun i v v' a b=>h.2 i v v' (by simpa using a) (by simpa using b))
theorem VRel.agg_inv {m:Mp} {cs:Array Value} {v':Value} (h:VRel m (.agg cs) v') : ∃cs',v'=.agg cs'∧LRel m cs.toList cs'.toList:=by
 cases h with
 | scal h=>simp[Id.scal] at h
 | agg hs h=>exact⟨_,rfl,by simpa using hs,fun i v v' a b=>h i v v' (by simpa using a) (by simpa using b)⟩
theorem VRel.tuple_inv {m:Mp} {cs:Array Value} {v':Value} (h:VRel m (.tuple cs) v') : ∃cs',v'=.tuple cs'∧LRel m cs.toList cs'.toList:=by
 cases h with
 | scal h=>simp[Id.scal] at h
 | tuple hs h=>exact⟨_,rfl,by simpa using hs,fun i v v' a b=>h i v v' (by simpa using a) (by simpa using b)⟩
theorem VRel.func_inv {m:Mp} {fn:Fn} {xs ys:Array Value} {v':Value} (h:VRel m (.func fn xs ys) v') :
  ∃fn' xs' ys',v'=.func fn' xs' ys'∧FnRel m fn fn'∧LRel m xs.toList xs'.toList∧LRel m ys.toList ys'.toList:=by
 cases h with
 | scal h=>simp[Id.scal] at h
 | func hf hx hy h1 h2 =>
  exact⟨_,_,_,rfl,hf,⟨by simpa using hx,fun i v v' a b=>h1 i v v' (by simpa using a) (by simpa using b)⟩,⟨by simpa using hy,fun i v v' a b=>h2 i v v' (by simpa using a) (by simpa using b)⟩⟩
theorem VRel.func_mk {m:Mp} {fn fn':Fn} {xs ys xs' ys':Array Value} (hf:FnRel m fn fn') (h1:LRel m xs.toList xs'.toList) (h2:LRel m ys.toList ys'.toList) :
  VRel m (.func fn xs ys) (.func fn' xs' ys') :=
 .func hf (by simpa using h1.1) (by simpa using h2.1) (fun i v v' a b=>h1.2 i v v' (by simpa using a) (by simpa using b)) (fun i v v' a b=>h2.2 i v v' (by simpa using a) (by simpa using b))
theorem VRel.ptr_inv {m:Mp} {b o:Nat} {v':Value} (h:VRel m (.pointer (some ⟨b,o,none⟩)) v') : ∃r s,m b=some (r,s)∧v'=.pointer (some ⟨r,s+o,none⟩):=by
 cases h with
 | scal h=>simp[Id.scal] at h
 | ptr h=>exact⟨_,_,h,rfl⟩
theorem VRel.plain_eq {m:Mp} {v v':Value} (h:VRel m v v') (hv:plain v=true):v'=v:=by
 by_cases ha : ∃cs,v=.agg cs
 ·obtain⟨cs,rfl⟩:=ha
  obtain⟨cs',rfl,hl⟩:=h.agg_inv
  have:cs'.toList=cs.toList:=hl.scal (by simpa [plain] using hv)
  rw[Array.toList_inj.1 this]
 ·exact h.scal_eq (by unfold plain at hv;split at hv<;>simp_all)
theorem VRel.plain_mk {m:Mp} {v:Value} (hv:plain v=true):VRel m v v:=by
 by_cases ha : ∃cs,v=.agg cs
 ·obtain⟨cs,rfl⟩:=ha
  exact VRel.agg_iff (.scal_mk (by simpa [plain] using hv))
 ·exact .scal (by unfold plain at hv;split at hv<;>simp_all)
theorem VRel.cells {m:Mp} {v v':Value} (h:VRel m v v'):LRel m v.cells.toList v'.cells.toList:=by
 by_cases ha : ∃cs,v=.agg cs
 ·obtain⟨cs,rfl⟩:=ha
  obtain⟨cs',rfl,hl⟩:=h.agg_inv
  exact hl
 ·have e1:v.cells = #[v]:=by cases v<;>simp_all [Value.cells]
  have e2:v'.cells = #[v']:=by cases h<;>simp_all [Value.cells]
  rw[e1,e2]
  exact .cons h (.nil m)
def FrRel (m:Mp) (fr:Fr) (tmps:Array Value):Prop:=∀t v,fget fr t=some v → ∃v',tmps[t]?=some v'∧VRel m v v'
structure LoopRel (m:Mp) (l:ILoop) (l':Loop):Prop where
 state:l'.state=l.state
 pending:l'.pending=l.pending
 fn:l'.fn=l.fn
 tmps:FrRel m l.fr l'.tmps
 nt:l.nt≤l'.tmps.size
 params:l'.params.toList=l.params
 assign:l'.assign=l.assign
 body:l'.body=l.body
def EntryRel (m:Mp) (e:Value×Value) (e':MapEntry):Prop:=e'.key=e.1∧plain e.1=true∧VRel m e.2 e'.val
def MapRel (m:Mp) (es:List (Value×Value)) (c:Array MapEntry):Prop:=es.length=c.size ∧ ∀(i:Nat) (e:Value×Value) (e':MapEntry),es[i]?=some e→c[i]?=some e'→EntryRel m e e'∧e'.born=i
def RowAt (m:Mp) (cs:List Value) (c:Array Value) (s:Nat):Prop:=s+cs.length≤c.size ∧ ∀(i:Nat) (v:Value),cs[i]?=some v → ∃v',c[s+i]?=some v'∧VRel m v v'
def ObjRel (m:Mp) (w:World) (r s:Nat) (z:Nat×Nat):IObj→Prop
 | .cells cs e _ => ∃c el,w.heap[r]?=some (.cells c el)∧RowAt m cs c s∧z.1=e∧z.2≤c.size
 | .map es=>s=0 ∧ ∃c,w.heap[r]?=some (.map c es.length)∧MapRel m es c
 | .loop l=>s=0 ∧ ∃l',w.heap[r]?=some (.loop l')∧LoopRel m l l'
 | .iter k since seen last=>s=0 ∧ ∃rm,w.heap[r]?=some (.mapIter (some rm) since seen.toArray last)∧m k=some (rm,0)
 | .dead=>True
def IObj.alive:IObj→Bool
 | .dead=>false
 | _=>true
def Kin (h:IH) (k k':Nat):Prop:=∃cs t cs' t' f st,h.ext.get k=some (.cells cs t (some f))∧h.ext.get k'=some (.cells cs' t' (some f))∧h.fams.get f=some st∧k∈st∧k'∈st
structure Rel (B:Nat) (w0:World) (m:Mp) (h:IH) (w:World):Prop where
 below:Below B w0 w
 size:B≤w.heap.size
 base : ∀b cs,h.base b=some cs → ∃r s,m (2*b+1)=some (r,s)∧r<B ∧ ∃c el fz,w.heap[r]?=some (.cells c el fz)∧RowAt m cs c s
 odd : ∀b,b<4294967296→m (2*b+1)=some (b,0)
 even : ∀k r s,m (2*k)=some (r,s)→B≤r∧r<w.heap.size
 dom : ∀k,h.n≤k→h.ext.get k=none
 obj : ∀k o r s,h.ext.get k=some o→m (2*k)=some (r,s)→ObjRel m w r s (m.ez (2*k)) o
 own : ∀k k' o o' r s s',k≠k'→h.ext.get k=some o→h.ext.get k'=some o'→o.alive=true→o'.alive=true→m (2*k)=some (r,s)→m (2*k')=some (r,s')→Kin h k k'
 famdom : ∀f st,h.fams.get f=some st→f<h.n∧(∀x∈st,x<h.n)∧st.Nodup
 fam : ∀k cs t f,h.ext.get k=some (.cells cs t (some f)) → ∃st,h.fams.get f=some st∧k∈st
 long : ∀f st,h.fams.get f=some st→st.Pairwise fun x y => ∀cs t g cs' t' g' r s s',h.ext.get x=some (.cells cs t g)→h.ext.get y=some (.cells cs' t' g') →
  m (2*x)=some (r,s)→m (2*y)=some (r,s')→s'+cs'.length≤s+cs.length
 whole : ∀f st x y,h.fams.get f=some st→x∈st→y∈st→(m (2*x)).isSome=true→(m (2*y)).isSome=true
structure Step (m:Mp) (h:IH) (w:World) (m':Mp) (h':IH) (w':World):Prop where
 le:m.le m'
 new : ∀b,m' b≠m b → ∃k,b=2*k∧h.n≤k∧k<h'.n
 n:h.n≤h'.n
 base:h'.base=h.base
 frame : ∀r,r<w.heap.size→(∀k s,k<h.n→m (2*k)≠some (r,s))→w'.heap[r]?=w.heap[r]?
 idle : ∀k,k<h.n→m (2*k)=none→h'.ext.get k=h.ext.get k
 size:w.heap.size≤w'.heap.size
 img : ∀k r s,h.n≤k→k<h'.n→m' (2*k)=some (r,s)→w.heap.size≤r ∨ ∃k0 s0,k0<h.n∧m (2*k0)=some (r,s0)
 idleF : ∀k,k<h.n→m (2*k)=none→(∀f st,h.fams.get f=some st→k∉st) → ∀f st,h'.fams.get f=some st→k∉st
def Fresh (m:Mp) (a b:Nat):Prop:=∀k,a≤k→k<b→m (2*k)=none
theorem Step.refl (m:Mp) (h:IH) (w:World):Step m h w m h w :=
 ⟨Mp.le_refl m,fun _ e=>absurd rfl e,Nat.le_refl _,rfl,fun _ _ _=>rfl,fun _ _ _=>rfl,Nat.le_refl _,fun k r s a b=>by omega,fun _ _ _ h=>h⟩
theorem Step.old {m m':Mp} {h h':IH} {w w':World} (s:Step m h w m' h' w') {k:Nat} (hk:k<h.n):m' (2*k)=m (2*k):=by
 apply Classical.byContradiction;intro hne
 obtain⟨k',e,a,_⟩:=s.new _ hne
 omega
theorem Step.trans {m m1 m2:Mp} {h h1 h2:IH} {w w1 w2:World} (s:Step m h w m1 h1 w1) (t:Step m1 h1 w1 m2 h2 w2):Step m h w m2 h2 w2:=by
 refine⟨Mp.le_trans s.le t.le,fun b hb=>?_,Nat.le_trans s.n t.n,t.base.trans s.base,fun r hr hk=>?_,fun k hk hm=>?_,Nat.le_trans s.size t.size,fun k r x hk1 hk2 hx=>?_,fun k hk hm hf=>t.idleF k (Nat.lt_of_lt_of_le hk s.n) (by rw[s.old hk,hm]) (s.idleF k hk hm hf)⟩
 ·by_cases h12:m2 b=m1 b
  ·rw[h12] at hb
   obtain⟨k,e,a,c⟩:=s.new b hb
   exact⟨k,e,a,Nat.lt_of_lt_of_le c t.n⟩
  ·obtain⟨k,e,a,c⟩:=t.new b h12
   exact⟨k,e,Nat.le_trans s.n a,c⟩
 ·rw[t.frame r (Nat.lt_of_lt_of_le hr s.size) ?_,s.frame r hr hk]
  intro k x hk1 hm1
  by_cases hkn:k<h.n
  ·exact hk k x hkn (by rw[←s.old hkn];exact hm1)
  ·rcases s.img k r x (by omega) hk1 hm1 with e|⟨k0,s0,e1,e2⟩
   ·omega
   ·exact hk k0 s0 e1 e2
 ·have hm1:m1 (2*k)=none:=by rw[s.old hk,hm]
  rw[t.idle k (Nat.lt_of_lt_of_le hk s.n) hm1,s.idle k hk hm]
 ·by_cases hkn:k<h1.n
  ·rw[t.old hkn] at hx
   exact s.img k r x hk1 hkn hx
  ·rcases t.img k r x (by omega) hk2 hx with e|⟨k0,s0,e1,e2⟩
   ·exact .inl (Nat.le_trans s.size e)
   ·by_cases hk0:k0<h.n
    ·rw[s.old hk0] at e2;exact .inr ⟨k0,s0,hk0,e2⟩
    ·exact s.img k0 r s0 (by omega) e1 e2
end Go.Id

namespace Go.Id
open Go Go.RowKit
namespace Tr
variable {α:Type}
theorem get_leaf (k:Nat):(leaf:Tr α).get k=none:=rfl
theorem get_node (l r:Tr α) (v:Option α) (k:Nat):(node l v r).get k=if k=0 then v else if k % 2=1 then l.get (k / 2) else r.get ((k - 1) / 2):=by
 simp only[get,cond_eq_ite,beq_iff_eq]
theorem get_one : ∀(f n:Nat) (x:α) (k:Nat),n≤f→(one f n x).get k=if k=n then some x else none
 | 0,n,x,k,h=>by
  obtain rfl:n=0:=by omega
  simp only[one,get_node,get_leaf]
  by_cases hk:k=0<;>simp[hk]
 | f+1,n,x,k,h=>by
  simp only[one,cond_eq_ite,beq_iff_eq]
  by_cases hn:n=0
  ·subst hn;simp only[if_true,get_node,get_leaf]
   by_cases hk:k=0<;>simp[hk]
  ·by_cases ho:n % 2=1
   ·simp only[hn,ho,if_true,if_false,get_node,get_leaf]
    by_cases hk:k=0
    ·subst hk;simp;omega
    ·by_cases hk1:k % 2=1
     ·simp only[hk,hk1,if_true,if_false]
      rw[get_one f (n / 2) x (k / 2) (by omega)]
      by_cases e:k / 2=n / 2
      ·rw[if_pos e,if_pos (by omega)]
      ·rw[if_neg e,if_neg (by omega)]
     ·simp only[hk,hk1,if_false]
      rw[if_neg (by omega)]
   ·simp only[hn,ho,if_false,get_node,get_leaf]
    by_cases hk:k=0
    ·subst hk;simp;omega
    ·by_cases hk1:k % 2=1
     ·simp only[hk,hk1,if_true,if_false]
      rw[if_neg (by omega)]
     ·simp only[hk,hk1,if_false]
      rw[get_one f ((n - 1) / 2) x ((k - 1) / 2) (by omega)]
      by_cases e:(k - 1) / 2=(n - 1) / 2
      ·rw[if_pos e,if_pos (by omega)]
      ·rw[if_neg e,if_neg (by omega)]
theorem get_set : ∀(t:Tr α) (n:Nat) (x:α) (k:Nat),(t.set n x).get k=if k=n then some x else t.get k
 | .leaf,n,x,k=>by simp only[set,get_one n n x k (Nat.le_refl n),get_leaf]
 | .node l v r,n,x,k=>by
  simp only[set,cond_eq_ite,beq_iff_eq]
  by_cases hn:n=0
  ·subst hn;simp only[if_true,get_node]
   by_cases hk:k=0<;>simp[hk]
  ·by_cases ho:n % 2=1
   ·simp only[hn,ho,if_true,if_false,get_node]
    by_cases hk:k=0
    ·subst hk;simp only[if_true];rw[if_neg (by omega)]
    ·by_cases hk1:k % 2=1
     ·simp only[hk,hk1,if_true,if_false]
      rw[get_set l (n / 2) x (k / 2)]
      by_cases e:k / 2=n / 2
      ·rw[if_pos e,if_pos (by omega)]
      ·rw[if_neg e,if_neg (by omega)]
     ·simp only[hk,hk1,if_false]
      rw[if_neg (by omega)]
   ·simp only[hn,ho,if_false,get_node]
    by_cases hk:k=0
    ·subst hk;simp only[if_true];rw[if_neg (by omega)]
    ·by_cases hk1:k % 2=1
     ·simp only[hk,hk1,if_true,if_false]
      rw[if_neg (by omega)]
     ·simp only[hk,hk1,if_false]
      rw[get_set r ((n - 1) / 2) x ((k - 1) / 2)]
      by_cases e:(k - 1) / 2=(n - 1) / 2
      ·rw[if_pos e,if_pos (by omega)]
      ·rw[if_neg e,if_neg (by omega)]
end Tr
theorem get_killAll : ∀(l:List Nat) (e:Tr IObj) (k:Nat),(IH.killAll e l).get k=if k∈l then some .dead else e.get k
 | [],e,k=>by simp[IH.killAll]
 | a :: l,e,k=>by
  rw[IH.killAll,get_killAll l _ k,Tr.get_set]
  by_cases h1:k∈l
  ·simp[h1]
  ·by_cases h2:k=a
   ·simp[h2]
   ·simp[h1,h2]
theorem heap_alloc (w:World) (o:Obj) (r:Nat):(w.alloc o).heap[r]?=if r=w.heap.size then some o else w.heap[r]?:=by
 show(w.heap.push o)[r]?=_
 rw[Array.getElem?_push]
theorem size_alloc (w:World) (o:Obj):(w.alloc o).heap.size=w.heap.size+1:=by
 show(w.heap.push o).size=_
 simp
theorem ObjRel.mono {m m':Mp} {w w':World} {r s:Nat} {z z':Nat×Nat} {o:IObj} (hm:m.le m') (hw:w'.heap[r]?=w.heap[r]?) (hz:z'=z) (h:ObjRel m w r s z o):ObjRel m' w' r s z' o:=by
 subst hz
 cases o with
 | cells cs t f =>
  obtain⟨c,el,a,⟨b,d⟩,e⟩:=h
  exact⟨c,el,hw.trans a,⟨b,fun i v hv=>let ⟨v',x,y⟩:=d i v hv;⟨v',x,y.mono hm⟩⟩,e⟩
 | map es =>
  obtain⟨h0,c,a,b,d⟩:=h
  exact⟨h0,c,hw.trans a,b,fun i e e' x y=>let ⟨⟨p,q,z⟩,t⟩:=d i e e' x y;⟨⟨p,q,z.mono hm⟩,t⟩⟩
 | loop l =>
  obtain⟨h0,l',a,b⟩:=h
  exact⟨h0,l',hw.trans a,⟨b.state,b.pending,b.fn,fun t v hv=>let ⟨v',x,y⟩:=b.tmps t v hv;⟨v',x,y.mono hm⟩,b.nt,b.params,b.assign,b.body⟩⟩
 | iter k since seen last =>
  obtain⟨h0,rm,a,b⟩:=h
  exact⟨h0,rm,hw.trans a,(hm _ _ b).1⟩
 | dead=>trivial
def Mp.upd (m:Mp) (b:Nat) (x z:Nat×Nat):Mp:=⟨fun b'=>if b'=b then some x else m b',fun b'=>if b'=b then z else m.ez b'⟩
theorem Mp.le_upd {m:Mp} {b:Nat} {x z:Nat×Nat} (h:m b=none):m.le (m.upd b x z):=by
 intro b' y hy
 unfold Mp.upd
 by_cases e:b'=b
 ·subst e;rw[h] at hy;cases hy
 ·simp[e,hy]
theorem Mp.upd_self (m:Mp) (b:Nat) (x z:Nat×Nat):m.upd b x z b=some x:=by simp[Mp.upd]
theorem Mp.upd_ne (m:Mp) {b b':Nat} (x z:Nat×Nat) (h:b'≠b):m.upd b x z b'=m b':=by simp[Mp.upd,h]
theorem Mp.ez_self (m:Mp) (b:Nat) (x z:Nat×Nat):(m.upd b x z).ez b=z:=by simp[Mp.upd]
theorem Mp.ez_ne (m:Mp) {b b':Nat} (x z:Nat×Nat) (h:b'≠b):(m.upd b x z).ez b'=m.ez b':=by simp[Mp.upd,h]
def IObj.lone:IObj→Bool
 | .cells _ _ (some _)=>false
 | _=>true
theorem below_alloc {B:Nat} {w0 w:World} (h:Below B w0 w) (hs:B≤w.heap.size) (o:Obj):Below B w0 (w.alloc o) :=
 h.alloc hs o
theorem kin_new {h:IH} {o:IObj} (hd:h.ext.get h.n=none) {k k':Nat} (hk:Kin h k k'):Kin (h.new o) k k':=by
 obtain⟨cs,t,cs',t',f,st,a,b,c,d,e⟩:=hk
 have h1:k≠h.n:=by intro e;rw[e,hd] at a;cases a
 have h2:k'≠h.n:=by intro e;rw[e,hd] at b;cases b
 exact⟨cs,t,cs',t',f,st,by simp[IH.new,Tr.get_set,h1,a],by simp[IH.new,Tr.get_set,h2,b],c,d,e⟩
theorem Rel.new {B:Nat} {w0:World} {m:Mp} {h:IH} {w:World} (R:Rel B w0 m h w) (o:IObj) (o':Obj) (z:Nat×Nat) (hm:m (2*h.n)=none)
  (ho:ObjRel m (w.alloc o') w.heap.size 0 z o) (hl:o.lone=true) :
  Rel B w0 (m.upd (2*h.n) (w.heap.size,0) z) (h.new o) (w.alloc o')∧Step m h w (m.upd (2*h.n) (w.heap.size,0) z) (h.new o) (w.alloc o'):=by
 have hle:m.le (m.upd (2*h.n) (w.heap.size,0) z):=Mp.le_upd hm
 have hold : ∀r,r<w.heap.size→(w.alloc o').heap[r]?=w.heap[r]?:=fun r hr=>by rw[heap_alloc,if_neg (by omega)]
 have hget : ∀k,(h.new o).ext.get k=if k=h.n then some o else h.ext.get k:=fun k=>Tr.get_set _ _ _ _
 have hdn:=R.dom h.n (Nat.le_refl _)
 refine⟨⟨below_alloc R.below R.size o',by rw[size_alloc];have:=R.size;omega,?_,?_,?_,?_,?_,?_,?_,?_,?_,?_⟩,⟨hle,?_,Nat.le_succ _,rfl,fun r hr _=>hold r hr,?_,by rw[size_alloc];omega,fun k r s hk1 hk2 hk=>by
  obtain rfl:k=h.n:=by have:(h.new o).n=h.n+1:=rfl;omega
  rw[Mp.upd_self] at hk;cases hk;exact .inl (Nat.le_refl _),fun _ _ _ h=>h⟩⟩
 ·intro b cs hb
  obtain⟨r0,s0,hm0,hb1,c,el,fz,hc,hr⟩:=R.base b cs hb
  refine⟨r0,s0,by rw[Mp.upd_ne _ _ _ (by omega)];exact hm0,hb1,c,el,fz,?_,hr.1,fun i v hv=>let ⟨v',x,y⟩:=hr.2 i v hv;⟨v',x,y.mono hle⟩⟩
  rw[hold r0 (by have:=R.size;omega),hc]
 ·intro b hb
  rw[Mp.upd_ne _ _ _ (by omega)]
  exact R.odd b hb
 ·intro k r s hk
  rw[size_alloc]
  by_cases e:k=h.n
  ·subst e;rw[Mp.upd_self] at hk;cases hk;exact⟨R.size,by omega⟩
  ·rw[Mp.upd_ne _ _ _ (by omega)] at hk
   have:=R.even k r s hk;omega
 ·intro k hk
  rw[hget,if_neg (by have:(h.new o).n=h.n+1:=rfl;omega)]
  exact R.dom k (by have:(h.new o).n=h.n+1:=rfl;omega)
 ·intro k x r s hk hr
  rw[hget] at hk
  by_cases e:k=h.n
  ·subst e;rw[if_pos rfl] at hk;cases hk
   rw[Mp.upd_self] at hr;cases hr
   exact ho.mono hle rfl (Mp.ez_self _ _ _ _)
  ·rw[if_neg e] at hk;rw[Mp.upd_ne _ _ _ (by omega)] at hr
   exact(R.obj k x r s hk hr).mono hle (hold r (R.even k r s hr).2) (Mp.ez_ne _ _ _ (by omega))
 ·intro k k' x x' r s s' hne hk hk' ha ha' hr hr'
  rw[hget] at hk hk'
  by_cases e:k=h.n
  ·subst e
   rw[Mp.upd_self] at hr;cases hr
   rw[Mp.upd_ne _ _ _ (by omega)] at hr'
   have:=R.even _ _ _ hr';omega
  ·by_cases e':k'=h.n
   ·subst e'
    rw[Mp.upd_self] at hr';cases hr'
    rw[Mp.upd_ne _ _ _ (by omega)] at hr
    have:=R.even _ _ _ hr;omega
   ·rw[if_neg e] at hk;rw[if_neg e'] at hk'
    rw[Mp.upd_ne _ _ _ (by omega)] at hr hr'
    exact kin_new hdn (R.own k k' x x' r s s' hne hk hk' ha ha' hr hr')
 ·intro f st hf
  obtain⟨a,b,c⟩:=R.famdom f st hf
  exact⟨Nat.lt_succ_of_lt a,fun x hx=>Nat.lt_succ_of_lt (b x hx),c⟩
 ·intro k cs t f hk
  rw[hget] at hk
  by_cases e:k=h.n
  ·rw[if_pos e] at hk;cases hk;simp[IObj.lone] at hl
  ·rw[if_neg e] at hk;exact R.fam k cs t f hk
 ·intro f st hf
  have hlt:=(R.famdom f st hf).2.1
  refine(R.long f st hf).imp_of_mem fun {x y} hx hy hxy=>?_
  have ex:x≠h.n:=by have:=hlt x hx;omega
  have ey:y≠h.n:=by have:=hlt y hy;omega
  intro cs t g cs' t' g' r s s' h1 h2 h3 h4
  rw[hget,if_neg ex] at h1;rw[hget,if_neg ey] at h2
  rw[Mp.upd_ne _ _ _ (by omega)] at h3 h4
  exact hxy cs t g cs' t' g' r s s' h1 h2 h3 h4
 ·intro f st x y hf hx hy
  have hlt:=(R.famdom f st hf).2.1
  rw[Mp.upd_ne _ _ _ (by have:=hlt x hx;omega),Mp.upd_ne _ _ _ (by have:=hlt y hy;omega)]
  exact R.whole f st x y hf hx hy
 ·intro b hb
  by_cases e:b=2*h.n
  ·exact⟨h.n,e,Nat.le_refl _,Nat.lt_succ_self _⟩
  ·exact absurd (Mp.upd_ne _ _ _ e) hb
 ·intro k hk _
  rw[hget,if_neg (by omega)]
def World.put (w:World) (r:Nat) (o:Obj):World:={ w with heap:=w.heap.setIfInBounds r o }
theorem heap_put (w:World) (r:Nat) (o:Obj) (r':Nat):(World.put w r o).heap[r']?=if r'=r∧r<w.heap.size then some o else w.heap[r']?:=by
 show(w.heap.setIfInBounds r o)[r']?=_
 rw[Array.getElem?_setIfInBounds]
 by_cases h:r'=r
 ·subst h
  by_cases hr:r'<w.heap.size<;>simp[hr]
 ·rw[if_neg (fun e=>h e.symm),if_neg (fun e=>h e.1)]
theorem size_put (w:World) (r:Nat) (o:Obj):(World.put w r o).heap.size=w.heap.size:=by
 show(w.heap.setIfInBounds r o).size=_
 simp
theorem below_put {B:Nat} {w0 w:World} (h:Below B w0 w) {r:Nat} (hr:B≤r) (o:Obj):Below B w0 (World.put w r o) :=
 ⟨h.os,h.tape,h.output,by rw[size_put];exact h.size,fun k hk=>by rw[heap_put,if_neg (by omega)];exact h.block k hk⟩
def setsA (c:Array Value) (q:Nat):List Value→Array Value
 | []=>c
 | v :: vs=>setsA (c.setIfInBounds q v) (q+1) vs
theorem size_setsA : ∀(vs:List Value) (c:Array Value) (q:Nat),(setsA c q vs).size=c.size
 | [],c,q=>rfl
 | v :: vs,c,q=>by rw[setsA,size_setsA vs,Array.size_setIfInBounds]
theorem get_setsA : ∀(vs:List Value) (c:Array Value) (q j:Nat),q+vs.length≤c.size→(setsA c q vs)[j]?=if q≤j∧j<q+vs.length then vs[j - q]? else c[j]?
 | [],c,q,j,h=>by simp only[setsA,List.length_nil];rw[if_neg (by omega)]
 | v :: vs,c,q,j,h=>by
  simp only[List.length_cons] at h
  rw[setsA,get_setsA vs _ _ _ (by rw[Array.size_setIfInBounds];omega),Array.getElem?_setIfInBounds]
  by_cases h1:j=q
  ·subst h1
   rw[if_neg (by omega),if_pos rfl,if_pos (by omega),if_pos (by simp)]
   simp
  ·by_cases h2:q+1≤j∧j<q+1+vs.length
   ·rw[if_pos h2,if_pos (by simp only[List.length_cons];omega)]
    rw[show j - q=(j - (q+1))+1 from by omega,List.getElem?_cons_succ]
   ·rw[if_neg h2,if_neg (fun e=>h1 e.symm),if_neg (by simp only[List.length_cons];omega)]
theorem length_splice (cs:List Value) (o:Nat) (vs:List Value) (h:o+vs.length≤cs.length):(IH.splice cs o vs).length=cs.length:=by
 simp[IH.splice];omega
theorem get_splice (cs:List Value) (o:Nat) (vs:List Value) (h:o+vs.length≤cs.length) (j:Nat) :
  (IH.splice cs o vs)[j]?=if o≤j∧j<o+vs.length then vs[j - o]? else cs[j]?:=by
 unfold IH.splice
 by_cases h1:j<o
 ·rw[List.getElem?_append_left (by simp;omega),List.getElem?_take_of_lt h1,if_neg (by omega)]
 ·rw[List.getElem?_append_right (by simp;omega)]
  have e:(cs.take o).length=o:=by simp;omega
  rw[e]
  by_cases h2:j<o+vs.length
  ·rw[List.getElem?_append_left (by omega),if_pos (by omega)]
  ·rw[List.getElem?_append_right (by omega),if_neg (by omega),List.getElem?_drop]
   congr 1;omega
theorem RowAt.splice {m:Mp} {cs:List Value} {c:Array Value} {s o:Nat} {vs vs':List Value} (h:RowAt m cs c s) (ho:o+vs.length≤cs.length) (hv:LRel m vs vs') :
  RowAt m (IH.splice cs o vs) (setsA c (s+o) vs') s:=by
 have hl:=hv.1
 refine⟨by rw[length_splice cs o vs ho,size_setsA];exact h.1,fun i v hi=>?_⟩
 rw[get_splice cs o vs ho] at hi
 rw[get_setsA vs' c _ _ (by have:=h.1;omega)]
 by_cases h1:o≤i∧i<o+vs.length
 ·rw[if_pos h1] at hi;rw[if_pos (by omega)]
  rw[show s+i - (s+o)=i - o from by omega]
  obtain⟨v',a,b⟩:=hv.get hi
  exact⟨v',a,b⟩
 ·rw[if_neg h1] at hi;rw[if_neg (by omega)]
  exact h.2 i v hi
theorem cellOK_of {m:Mp} {v v':Value} (h:VRel m v v') (hv:cellOK v=true):cellOK v'=true:=by
 cases h<;>simp_all [cellOK]
theorem setCell_put (w:World) (r q:Nat) (v:Value) (c:Array Value) (el:TypeId) (h:w.heap[r]?=some (.cells c el)) :
  w.setCell ⟨r,q,none⟩ v=World.put w r (.cells (c.setIfInBounds q v) el):=by
 have hr:r<w.heap.size:=(Array.getElem?_eq_some_iff.1 h).1
 unfold Go.World.setCell World.put
 congr 1
 apply Array.ext_getElem?
 intro i
 rw[Array.getElem?_modify,Array.getElem?_setIfInBounds]
 by_cases hi:r=i
 ·subst hi
  have e:=(Array.getElem?_eq_some_iff.1 h).2
  simp[hr,e]
 ·simp[hi]
theorem put_put (w:World) (r:Nat) (a b:Obj):World.put (World.put w r a) r b=World.put w r b:=by
 unfold World.put
 simp
theorem run_storeCells (P:Program) (r p:Nat) (el:TypeId) : ∀(vs:List Value) (i:Nat) (w:World) (c:Array Value),w.heap[r]?=some (.cells c el) →
  p+i+vs.length≤c.size→(∀v∈vs,cellOK v=true)→(storeCells ⟨r,p,none⟩ vs i).run P w=.ok () (if vs = [] then w else World.put w r (.cells (setsA c (p+i) vs) el))
 | [],i,w,c,h,hl,hv=>by simp[storeCells,pure]
 | v :: vs,i,w,c,h,hl,hv=>by
  have hr:r<w.heap.size:=(Array.getElem?_eq_some_iff.1 h).1
  simp only[List.length_cons] at hl
  have hcell:w.cell? (Addr.add ⟨r,p,none⟩ i)=some (c[p+i]'(by omega)):=by
   have:(Addr.add ⟨r,p,none⟩ i).block=r∧(Addr.add ⟨r,p,none⟩ i).off=p+i∧(Addr.add ⟨r,p,none⟩ i).spot=none:=by
    unfold Addr.add;by_cases h0:i=0<;>simp[h0]
   obtain⟨a,b,d⟩:=this
   simp[World.cell?,a,b,d,h]
  have hadd:Addr.add ⟨r,p,none⟩ i=⟨r,p+i,none⟩:=by unfold Addr.add;by_cases h0:i=0<;>simp[h0]
  have hfz:w.frozen? (Addr.add ⟨r,p,none⟩ i)=false:=by
   rw[hadd];simp[World.frozen?,h]
  have h1:=hv v (by simp)
  have hput:(World.put w r (.cells (c.setIfInBounds (p+i) v) el)).heap[r]?=some (.cells (c.setIfInBounds (p+i) v) el):=by rw[heap_put,if_pos ⟨rfl,hr⟩]
  have ih:=run_storeCells P r p el vs (i+1) (World.put w r (.cells (c.setIfInBounds (p+i) v) el)) (c.setIfInBounds (p+i) v) hput (by rw[Array.size_setIfInBounds];omega) (fun x hx=>hv x (by simp[hx]))
  have hstore:(storeCells ⟨r,p,none⟩ (v :: vs) i).run P w=(storeCells ⟨r,p,none⟩ vs (i+1)).run P (w.setCell (Addr.add ⟨r,p,none⟩ i) v):=by
   cases v<;>first
    | (simp[cellOK] at h1;done)
    | (simp only[storeCells,Go.store,bind,Sem.bind,Sem.run,hcell,hfz];rfl)
  rw[hstore,hadd,setCell_put w r (p+i) v c el h,ih]
  simp only[reduceCtorEq,if_false]
  rw[setsA]
  by_cases hvs:vs = []
  ·subst hvs;simp[setsA]
  ·rw[if_neg hvs,put_put,show p+(i+1)=p+i+1 from by omega]
theorem Rel.write {B:Nat} {w0:World} {m:Mp} {h:IH} {w:World} (R:Rel B w0 m h w) {k r s:Nat} {cs:List Value} {t:Nat} {fam:Option Nat} {c:Array Value} {el:TypeId} {cs':List Value} {c':Array Value}
  (hk:h.ext.get k=some (.cells cs t fam)) (hm:m (2*k)=some (r,s)) (hr:w.heap[r]?=some (.cells c el)) (hrow:RowAt m cs' c' s) (hlen:cs'.length=cs.length) (hsz:c'.size=c.size)
  (fam':Option Nat) (hfam':fam'=fam∨fam'=none) (dead:List Nat) (hdead:match fam with|none=>dead = []|some f => ∃st,h.fams.get f=some st∧dead=st.filter (· != k)) :
  Rel B w0 m { h with ext:=(IH.killAll h.ext dead).set k (.cells cs' t fam') } (World.put w r (.cells c' el)) ∧
   Step m h w m { h with ext:=(IH.killAll h.ext dead).set k (.cells cs' t fam') } (World.put w r (.cells c' el)):=by
 have hrs:=R.even k r s hm
 have hkn:k<h.n:=by
  rcases Nat.lt_or_ge k h.n with e|e
  ·exact e
  ·have:=R.dom k e;rw[this] at hk;cases hk
 have hget : ∀j,((IH.killAll h.ext dead).set k (.cells cs' t fam')).get j=if j=k then some (.cells cs' t fam') else if j∈dead then some .dead else h.ext.get j:=fun j=>by
  rw[Tr.get_set,get_killAll]
 have hdk:k∉dead:=by
  cases fam with
  | none=>simp at hdead;simp[hdead]
  | some f=>obtain⟨st,_,e⟩:=hdead;simp[e]
 have hdd : ∀j,j∈dead → ∃f st,fam=some f∧h.fams.get f=some st∧j∈st:=fun j hj=>by
  cases fam with
  | none=>simp at hdead;simp[hdead] at hj
  | some f=>obtain⟨st,a,e⟩:=hdead;exact⟨f,st,rfl,a,by rw[e] at hj;exact(List.mem_filter.1 hj).1⟩
 have hsame : ∀j o s',j≠k→h.ext.get j=some o→o.alive=true→m (2*j)=some (r,s')→j∈dead:=by
  intro j o s' hj ho ha hmj
  obtain⟨_,_,_,_,f,st,a,b,d,e1,e2⟩:=R.own j k o _ r s' s hj ho hk ha rfl hmj hm
  rw[hk] at b;cases b
  obtain⟨st',d',e'⟩:=hdead
  rw[d] at d';cases d'
  rw[e'];exact List.mem_filter.2 ⟨e1,by simpa using hj⟩
 have hold : ∀r',r'≠r→(World.put w r (.cells c' el)).heap[r']?=w.heap[r']?:=fun r' h'=>by rw[heap_put,if_neg (fun e=>h' e.1)]
 have hnew:(World.put w r (.cells c' el)).heap[r]?=some (.cells c' el):=by rw[heap_put,if_pos ⟨rfl,hrs.2⟩]
 refine⟨⟨below_put R.below hrs.1 _,by rw[size_put];exact R.size,?_,R.odd,fun j r' s' hj=>by rw[size_put];exact R.even j r' s' hj,?_,?_,?_,R.famdom,?_,?_,R.whole⟩,
  ⟨Mp.le_refl m,fun b e=>absurd rfl e,Nat.le_refl _,rfl,?_,?_,by rw[size_put];exact Nat.le_refl _,fun k r s a b=>by have:k<h.n:=b;omega,fun _ _ _ h=>h⟩⟩
 ·intro b bs hb
  obtain⟨r0,s0,hm0,hb1,c1,el1,fz,hc,hrw⟩:=R.base b bs hb
  exact⟨r0,s0,hm0,hb1,c1,el1,fz,by rw[hold r0 (by omega)];exact hc,hrw⟩
 ·intro j hj
  have hj':h.n≤j:=hj
  show((IH.killAll h.ext dead).set k (.cells cs' t fam')).get j=none
  rw[hget,if_neg (by omega)]
  by_cases hd:j∈dead
  ·obtain⟨f,st,_,a,e⟩:=hdd j hd
   have:=(R.famdom f st a).2.1 j e;omega
  ·rw[if_neg hd];exact R.dom j hj'
 ·intro j o r' s' ho hj
  have ho':(if j=k then some (IObj.cells cs' t fam') else if j∈dead then some .dead else h.ext.get j)=some o:=by rw[←hget];exact ho
  by_cases e:j=k
  ·subst e
   rw[if_pos rfl] at ho';cases ho'
   rw[hm] at hj;cases hj
   obtain⟨c2,el2,hc2,_,hz1,hz2⟩:=R.obj j _ r s hk hm
   rw[hr] at hc2;cases hc2
   exact⟨c',el,hnew,hrow,hz1,by rw[hsz];exact hz2⟩
  ·rw[if_neg e] at ho'
   by_cases hd:j∈dead
   ·rw[if_pos hd] at ho';cases ho';trivial
   ·rw[if_neg hd] at ho'
    by_cases hr':r'=r
    ·subst hr'
     cases o with
     | dead=>trivial
     | _=>exact absurd (hsame j _ s' e ho' rfl hj) hd
    ·exact(R.obj j o r' s' ho' hj).mono (Mp.le_refl m) (hold r' hr') rfl
 ·intro j j' o o' r' s1 s2 hne ho ho' ha ha' hj hj'
  have e1:(if j=k then some (IObj.cells cs' t fam') else if j∈dead then some .dead else h.ext.get j)=some o:=by rw[←hget];exact ho
  have e2:(if j'=k then some (IObj.cells cs' t fam') else if j'∈dead then some .dead else h.ext.get j')=some o':=by rw[←hget];exact ho'
  have nd : ∀{i:Nat} {x:IObj},i≠k→(if i=k then some (IObj.cells cs' t fam') else if i∈dead then some .dead else h.ext.get i)=some x→x.alive=true→i∉dead∧h.ext.get i=some x:=by
   intro i x hi hx hxa
   rw[if_neg hi] at hx
   by_cases hd:i∈dead
   ·rw[if_pos hd] at hx;cases hx;simp[IObj.alive] at hxa
   ·rw[if_neg hd] at hx;exact⟨hd,hx⟩
  by_cases c1:j=k
  ·subst c1
   rw[hm] at hj;cases hj
   obtain⟨hd,hx⟩:=nd (fun e=>hne e.symm) e2 ha'
   exact absurd (hsame j' o' s2 (fun e=>hne e.symm) hx ha' hj') hd
  ·obtain⟨hd,hx⟩:=nd c1 e1 ha
   by_cases c2:j'=k
   ·subst c2
    rw[hm] at hj';cases hj'
    exact absurd (hsame j o s1 c1 hx ha hj) hd
   ·obtain⟨hd',hx'⟩:=nd c2 e2 ha'
    obtain⟨a1,a2,a3,a4,f,st,b1,b2,b3,b4,b5⟩:=R.own j j' o o' r' s1 s2 hne hx hx' ha ha' hj hj'
    exact⟨a1,a2,a3,a4,f,st,by rw[hget,if_neg c1,if_neg hd];exact b1,by rw[hget,if_neg c2,if_neg hd'];exact b2,b3,b4,b5⟩
 ·intro j js t' f hj
  have hj':(if j=k then some (IObj.cells cs' t fam') else if j∈dead then some .dead else h.ext.get j)=some (.cells js t' (some f)):=by rw[←hget];exact hj
  by_cases e:j=k
  ·subst e;rw[if_pos rfl] at hj';cases hj'
   rcases hfam' with e|e
   ·subst e;exact R.fam j cs t f hk
   ·cases e
  ·rw[if_neg e] at hj'
   by_cases hd:j∈dead
   ·rw[if_pos hd] at hj';cases hj'
   ·rw[if_neg hd] at hj';exact R.fam j js t' f hj'
 ·intro f st hf
  refine(R.long f st hf).imp fun {x y} hxy=>?_
  have back : ∀(i:Nat) (js:List Value) (t0:Nat) (g:Option Nat),((IH.killAll h.ext dead).set k (.cells cs' t fam')).get i=some (.cells js t0 g) → ∃js' t' g',h.ext.get i=some (.cells js' t' g')∧js'.length=js.length:=by
   intro i js t' g hi
   rw[hget] at hi
   by_cases e:i=k
   ·subst e;rw[if_pos rfl] at hi;cases hi;exact⟨_,_,_,hk,hlen.symm⟩
   ·rw[if_neg e] at hi
    by_cases hd:i∈dead
    ·rw[if_pos hd] at hi;cases hi
    ·rw[if_neg hd] at hi;exact⟨_,_,_,hi,rfl⟩
  intro xs t1 g1 ys t2 g2 r' s1 s2 h1 h2 h3 h4
  obtain⟨xs',t3,g3,b1,b2⟩:=back x xs t1 g1 h1
  obtain⟨ys',t4,g4,b3,b4⟩:=back y ys t2 g2 h2
  rw[←b2,←b4]
  exact hxy xs' t3 g3 ys' t4 g4 r' s1 s2 b1 b3 h3 h4
 ·intro r' hr' hno
  exact hold r' (fun e=>hno k s hkn (e▸hm))
 ·intro j hj hmj
  show((IH.killAll h.ext dead).set k (.cells cs' t fam')).get j=h.ext.get j
  rw[hget]
  have e:j≠k:=fun e=>by subst e;rw[hm] at hmj;cases hmj
  rw[if_neg e,if_neg ?_]
  intro hd
  obtain⟨f,st,e1,a,e2⟩:=hdd j hd
  subst e1
  obtain⟨st',b1,b2⟩:=R.fam k cs t f hk
  rw[a] at b1;cases b1
  have:=R.whole f st k j a b2 e2 (by rw[hm];rfl)
  rw[hmj] at this;cases this
end Go.Id
