/-
  The ideal machine: an evaluator of the model's code over a memory without chance
-/
import GoSem.Step
import Derived.Calls
set_option linter.unusedVariables false
set_option linter.unusedSimpArgs false
set_option linter.defProp false
set_option linter.deprecated false
namespace Go.Id
open Go
def bD:Value→Bool
 | .bool _|.int _ _|.string _|.nilFunc|.nilIface|.pointer none|.map none=>true
 | .slice none n c=>n == 0 && c == 0
 | _=>false
def plain:Value→Bool
 | .agg cs=>cs.all bD
 | v=>bD v
abbrev Fr:=List (Nat×Value)
def ab:Fr→Nat→Option Value
 | [],_=>none
 | (s,v) :: r,t=>bif s == t then some v else ab r t
def mC (nt:Nat) (fr:Fr) (dst:Option Tmp) (v:Value):Option Fr :=
 match dst with
 | none=>some fr
 | some d=>bif Nat.blt d nt then some ((d,v) :: fr) else none
def dV (fr:Fr):List Nat→Fr
 | [] => []
 | t :: l=>match ab fr t with
  | some v=>(t,v) :: dV fr l
  | none=>dV fr l
def dD:Nat→List Value→Fr
 | _,[] => []
 | i,v :: l=>(i,v) :: dD (i+1) l
def opd (fr:Fr):Operand→Option Value
 | .tmp t=>ab fr t
 | .const v=>bif plain v then some v else none
 | .global g=>bif Nat.blt g 4294967296 then some (.pointer (some ⟨2*g+1,0,none⟩)) else none
 | .func f=>some (.func (.func f) #[] #[])
def gA (fr:Fr):List Operand→Option (List Value)
 | []=>some []
 | x :: l=>match opd fr x,gA fr l with
  | some v,some vs=>some (v :: vs)
  | _,_=>none
inductive Tr (α:Type) where
 | leaf:Tr α
 | node:Tr α→Option α→Tr α→Tr α
namespace Tr
def get {α:Type}:Tr α→Nat→Option α
 | .leaf,_=>none
 | .node l v r,n=>bif n == 0 then v else bif n % 2 == 1 then l.get (n / 2) else r.get ((n - 1) / 2)
def one {α:Type}:Nat→Nat→α→Tr α
 | 0,_,x=>.node .leaf (some x) .leaf
 | f+1,n,x=>bif n == 0 then .node .leaf (some x) .leaf else bif n % 2 == 1 then .node (one f (n / 2) x) none .leaf else .node .leaf none (one f ((n - 1) / 2) x)
def set {α:Type}:Tr α→Nat→α→Tr α
 | .leaf,n,x=>one n n x
 | .node l v r,n,x=>bif n == 0 then .node l (some x) r else bif n % 2 == 1 then .node (l.set (n / 2) x) v r else .node l v (r.set ((n - 1) / 2) x)
end Tr
structure gT where
 state:LoopState
 pending:Option Code
 fn:FuncId
 nt:Nat
 fr:Fr
 params:List Nat
 assign:Code
 body:Code
inductive bz where
 | cells (cs:List Value) (e:Nat) (fam:Option Nat)      -- e: the cells of an element, where it was made by make, a literal or append
 | map (es:List (Value×Value))
 | loop (r:gT)
 | iter (k since:Nat) (seen:List Nat) (last:Nat)        -- an iterator over map k: the entries that have been, by their places
 | num (x:Nat)        -- the words of a number; nobody writes them
 | dead
structure IH where
 base:Nat→Option (List Value)
 n:Nat
 ext:Tr bz
 bT:Tr (List Nat)
namespace IH
def new (h:IH) (o:bz):IH:={ h with n:=h.n+1,ext:=h.ext.set h.n o }
def row (h:IH) (b:Nat):Option (List Value) :=
 bif b % 2 == 1 then h.base (b / 2) else match h.ext.get (b / 2) with
  | some (.cells cs _ _)=>some cs
  | _=>none
def rd (h:IH) (b o n:Nat):Option (List Value) :=
 match h.row b with
 | some cs=>bif Nat.ble (o+n) cs.length then some ((cs.drop o).take n) else none
 | none=>none
def dJ (e:Tr bz):List Nat→Tr bz
 | []=>e
 | k :: l=>dJ (e.set k .dead) l
def aG (cs:List Value) (o:Nat) (vs:List Value):List Value:=cs.take o ++ (vs ++ cs.drop (o+vs.length))
def wr (h:IH) (b o:Nat) (vs:List Value):Option IH :=
 bif b % 2 == 1 then none else match h.ext.get (b / 2) with
  | some (.cells cs t fam) =>
   bif Nat.ble (o+vs.length) cs.length then
    match fam with
    | none=>some { h with ext:=h.ext.set (b / 2) (.cells (aG cs o vs) t none) }
    | some f=>match h.bT.get f with
     | some st=>some { h with ext:=(dJ h.ext (st.filter (· != b / 2))).set (b / 2) (.cells (aG cs o vs) t none) }
     | none=>none
   else none
  | _=>none
end IH
def aw (P:Program) {α:Type}:Sem α→Option α
 | .pure a=>some a
 | .program k=>aw P (k P)
 | _=>none
def cw (P:Program) (s:Sem Value):Option Value :=
 match aw P s with
 | some v=>bif plain v then some v else none
 | none=>none
def bj (P:Program) (t:TypeId):Option Bool:=(P.underlying t).map fun d=>match d with|.struct _|.array _ _=>true|_=>false
def aK (P:Program) (t:TypeId):Option Nat:=(P.info? t).map (·.size)
def gP (P:Program) (t:TypeId):Option Nat:=(P.info? t).map (·.bytes)
def pT (P:Program) (t:TypeId):Option Value:=(P.info? t).bind (·.zero)
def aC (P:Program) (t:TypeId):Option (List Value):=match pT P t with
 | some z=>bif plain z then some z.cells.toList else none
 | none=>none
def asAddr:Value→Option (Nat×Nat)
 | .pointer (some ⟨b,o,none⟩)=>some (b,o)
 | _=>none
def aA:Value→Bool
 | .agg _=>false
 | .tuple _=>false
 | _=>true
def ptr (b o:Nat):Value:=.pointer (some ⟨b,o,none⟩)
def load (P:Program) (h:IH) (t:TypeId) (a:Value):Option Value :=
 match asAddr a,bj P t,aK P t with
 | some (b,o),some true,some n=>(h.rd b o n).map fun cs=>.agg cs.toArray
 | some (b,o),some false,_=>(h.rd b o 1).bind (·.head?)
 | _,_,_=>none
def store (P:Program) (h:IH) (t:TypeId) (a v:Value):Option IH :=
 match asAddr a,aK P t with
 | some (b,o),some n=>bif v.cells.size == n && v.cells.toList.all aA then h.wr b o v.cells.toList else none
 | _,_=>none
def aN:Nat:=1099511627776
def jd:Nat:=16777216
def bq:Nat→List Value→List Value
 | 0,_ => []
 | n+1,z=>z ++ bq n z
def cd (place:Nat→Option (Nat×Nat)) (cells:List Value):List (Nat×Value)→Option (List Value)
 | []=>some cells
 | (i,v) :: rest=>match place i with
  | none=>none
  | some (o,n)=>bif v.cells.size == n && Nat.ble (o+n) cells.length then cd place (IH.aG cells o v.cells.toList) rest else none
def idxOf:Value→Option Int
 | .int _ n=>some n
 | _=>none
def iC (v:Value) (most:Nat):Option Nat :=
 match v with
 | .int _ n=>match n with
  | .ofNat m=>bif Nat.ble m most then some m else none
  | .negSucc _=>none
 | _=>none
def QS (hi:Option Value) (len c:Nat):Option Nat:=match hi with
 | none=>some len
 | some v=>iC v c
def GD (lo:Option Value) (h:Nat):Option Nat:=match lo with
 | none=>some 0
 | some v=>iC v h
def fD (len c:Nat) (lo hi mx:Option Value):Option (Nat×Nat×Option Nat) :=
 match mx with
 | none=>match QS hi len c with
  | none=>none
  | some h=>match GD lo h with
   | none=>none
   | some l=>some (l,h,none)
 | some mv=>match iC mv c with
  | none=>none
  | some m=>match hi with
   | none=>none
   | some hv=>match iC hv m with
    | none=>none
    | some h=>match GD lo h with
     | none=>none
     | some l=>some (l,h,some m)
def de (size:Nat) (room:Bool) (x:Value) (lo hi mx:Option Value):Option Value :=
 match x with
 | .slice none n c=>bif n == 0 && c == 0 then (match fD 0 0 lo hi mx with|some _=>some (.slice none 0 0)|none=>none) else none
 | .slice (some ⟨b,o,none⟩) len k =>
  match fD len (k / 2) lo hi mx with
  | none=>none
  | some (l,h,om) =>
   bif k == 0 then some (.slice (some ⟨b,o,none⟩) 0 0) else match om with
   | none =>
    bif l == k / 2 then (bif k % 2 == 1 then some (.slice (some ⟨b,o,none⟩) 0 1) else some (.slice (some ⟨b,o,none⟩) 0 0))
    else bif k % 2 == 1 || room then some (.slice (some ⟨b,o+l*size,none⟩) (h - l) (k - 2*l)) else none
   | some m =>
    bif l == m then some (.slice (some ⟨b,o,none⟩) 0 1)
    else some (.slice (some ⟨b,o+l*size,none⟩) (h - l) (2*(m - l)+1))
 | _=>none
def bL (h:IH) (size n:Nat) (x:Value):Option (List Value) :=
 match x with
 | .slice none _ _=>some []
 | .slice (some ⟨b,o,none⟩) len _=>bif Nat.ble n len then (bif n*size == 0 then some [] else h.rd b o (n*size)) else none
 | _=>none
def lenOf:Value→Option Nat
 | .slice _ n _=>some n
 | _=>none
def grown (h:IH) (k f:Nat) (cs:List Value) (t:Nat) (bX below:List Nat) (cs':List Value) (t':Nat):IH :=
 { h with n:=h.n+1,ext:=((IH.dJ h.ext bX).set k (.cells cs t (some f))).set h.n (.cells cs' t' (some f)),bT:=h.bT.set f (h.n :: k :: below) }
def append (P:Program) (h:IH) (st:TypeId) (s x:Value):Option (Value×IH) :=
 match P.underlying st with
 | some (.slice elem)=>match aK P elem,gP P elem,aC P elem,lenOf x with
  | some size,some bytes,some zs,some n =>
   bif n == 0 then (match s with|.slice none a c=>bif a == 0 && c == 0 then some (s,h) else none|.slice (some ⟨_,_,none⟩) _ _=>some (s,h)|_=>none) else
   bif size == 0 || (!(Nat.ble bytes 65536) || !(zs.length == size)) then none else
   match bL h size n x with
   | none=>none
   | some new=>bif !(new.all aA) then none else match s with
    | .slice none a c=>bif a == 0 && c == 0 && Nat.ble (n*(bytes+1)) aN then some (.slice (some ⟨2*h.n,0,none⟩) n (2*n),h.new (.cells new size none)) else none
    | .slice (some ⟨b,o,none⟩) len k =>
     bif !(Nat.ble ((len+n)*(bytes+1)) aN) then none else
     bif Nat.ble (len+n) (k / 2) then (h.wr b (o+len*size) new).map fun h=>(.slice (some ⟨b,o,none⟩) (len+n) k,h)
     else bif k % 2 == 1 then
      match bL h size len s with
      | none=>none
      | some old=>some (.slice (some ⟨2*h.n,0,none⟩) (len+n) (2*(len+n)),h.new (.cells (old ++ new) size none))
     else bif len == k / 2 && Nat.blt 0 len && b % 2 == 0 then
      match h.ext.get (b / 2) with
      | some (.cells cs t fam) =>
       bif o+len*size == cs.length && t == size then
        match fam with
        | none=>some (.slice (some ⟨2*h.n,0,none⟩) (len+n) (2*(len+n)),grown h (b / 2) h.n cs t [] [] (cs.drop o ++ new) size)
        | some f=>match h.bT.get f with
         | none=>none
         | some stk=>some (.slice (some ⟨2*h.n,0,none⟩) (len+n) (2*(len+n)),
           grown h (b / 2) f cs t (stk.takeWhile (· != b / 2)) ((stk.dropWhile (· != b / 2)).drop 1) (cs.drop o ++ new) size)
       else none
      | _=>none
     else none
    | _=>none
  | _,_,_,_=>none
 | _=>none
def fu (P:Program) (t:TypeId) (f:Nat):Option Field :=
 match P.underlying t with
 | some (.struct fs)=>fs[f]?
 | _=>none
def partOf (P:Program) (t:TypeId) (cs:Array Value) (off:Nat):Option Value :=
 match bj P t,aK P t with
 | some true,some n=>some (.agg (cs.extract off (off+n)))
 | some false,_=>cs[off]?
 | _,_=>none
def tC:TypeDesc→Value→Value→Option Bool
 | .slice _,.slice none _ _,.slice none _ _=>some true
 | .slice _,.slice none _ _,.slice (some ⟨_,_,none⟩) _ _=>some false
 | .slice _,.slice (some ⟨_,_,none⟩) _ _,.slice none _ _=>some false
 | .map _ _,.map none,.map none=>some true
 | .map _ _,.map none,.map (some _)=>some false
 | .map _ _,.map (some _),.map none=>some false
 | .func _ _ _,.nilFunc,.nilFunc=>some true
 | .func _ _ _,.nilFunc,.func _ _ _=>some false
 | .func _ _ _,.func _ _ _,.nilFunc=>some false
 | .pointer _,.pointer none,.pointer none=>some true
 | .pointer _,.pointer none,.pointer (some _)=>some false
 | .pointer _,.pointer (some _),.pointer none=>some false
 | _,_,_=>none
def uS (P:Program) (t:TypeId) (x y:Value):Option Bool :=
 match P.underlying t with
 | some d=>tC d x y
 | none=>none
def binop (P:Program) (op:BinOp) (t:TypeId) (ox oy:Operand) (x y:Value):Option Value :=
 bif plain x && plain y then cw P (do eqGuard op t ox oy x y;Go.binOp op t x y)
 else match op with
  | .eql=>(uS P t x y).map .bool
  | .neq=>(uS P t x y).map fun b=>.bool !b
  | _=>none
def placeOf (P:Program) (t:TypeId) (i:Nat):Option (Nat×Nat) :=
 match P.underlying t with
 | some (.struct fs)=>match fs[i]? with
  | some f=>(aK P f.type).map fun n=>(f.offset,n)
  | none=>none
 | some (.array _ e)=>(aK P e).map fun n=>(i*n,n)
 | _=>none
def cu (P:Program) (t:TypeId):Bool :=
 match P.underlying t with
 | some (.struct fs)=>fs.all fun f=>(P.info? f.type).isSome
 | some (.array _ e)=>(P.info? e).isSome
 | _=>false
def partsOf (fr:Fr):List (Nat×Operand)→Option (List (Nat×Value))
 | []=>some []
 | (i,x) :: l=>match opd fr x,partsOf fr l with
  | some v,some vs=>some ((i,v) :: vs)
  | _,_=>none
def iP (es:List (Value×Value)):List MapEntry:=es.map fun e => { key:=e.1,val:=.nilIface,born:=0 }
def mapOf (h:IH) (k:Nat):Option (List (Value×Value)) :=
 bif k % 2 == 1 then none else match h.ext.get (k / 2) with
 | some (.map es)=>some es
 | _=>none
def Ai (P:Program) (kt:TypeId) (k:Value) (es:List (Value×Value)):Option (Option Nat) :=
 bif plain k then
  match aw P (Instr.checkKey es.isEmpty 10000 kt k),aw P (Instr.findKey kt k (iP es)) with
  | some (),some r=>some (r.map (·.1))
  | _,_=>none
 else none
def entriesOf (h:IH):Value→Option (List (Value×Value))
 | .map none=>some []
 | .map (some r)=>mapOf h r
 | _=>none
def Qd:Option Unit→Bool
 | some _=>true
 | none=>false
def lookup (P:Program) (h:IH) (mt:TypeId) (m k:Value) (ok:Bool):Option Value :=
 match P.underlying mt with
 | some (.map kt et) =>
  match entriesOf h m with
  | none=>none
  | some es=>match Ai P kt k es with
   | none=>none
   | some none=>match pT P et with
    | some z=>bif plain z then some (bif ok then .tuple #[z,.bool false] else z) else none
    | none=>none
   | some (some i)=>(es[i]?).map fun e=>bif ok then .tuple #[e.2,.bool true] else e.2
 | _=>none
def mapUpdate (P:Program) (h:IH) (mt:TypeId) (m k v:Value):Option IH :=
 match P.underlying mt,m with
 | some (.map kt _),.map (some r) =>
  match mapOf h r with
  | none=>none
  | some es =>
   bif Qd (aw P (Instr.checkKey false 10000 kt k)) then
   match Ai P kt k es with
   | none=>none
   | some none=>some { h with ext:=h.ext.set (r / 2) (.map (es ++ [(k,v)])) }
   | some (some i)=>match es[i]? with
    | some e=>bif Instr.sameBits 10000 e.1 k then some { h with ext:=h.ext.set (r / 2) (.map (es.set i (k,v))) } else none
    | none=>none
   else none
 | _,_=>none
def makeSlice (P:Program) (h:IH) (t:TypeId) (l c:Value):Option (Value×IH) :=
 match P.underlying t with
 | some (.slice e)=>match iC l aN,iC c aN,aK P e,gP P e,aC P e with
  | some l,some c,some n,some by_,some z =>
   bif Nat.ble l c && Nat.ble (c*(by_+1)) aN && z.length == n then
    some (.slice (some ⟨2*h.n,0,none⟩) l (2*c+1),h.new (.cells (bq c z) n none))
   else none
  | _,_,_,_,_=>none
 | _=>none
def buildSlice (P:Program) (h:IH) (t:TypeId) (len:Nat) (parts:List (Nat×Value)):Option (Value×IH) :=
 match P.underlying t with
 | some (.slice e)=>match aK P e,aC P e with
  | some n,some z=>bif Nat.ble (len*n) jd && z.length == n then
    match cd (fun i=>some (i*n,n)) (bq len z) parts with
    | some cells=>some (.slice (some ⟨2*h.n,0,none⟩) len (2*len+1),h.new (.cells cells n none))
    | none=>none
   else none
  | _,_=>none
 | _=>none
def indexAddr (P:Program) (t:TypeId) (x i:Value):Option Value :=
 match P.underlying t,x,idxOf i with
 | some (.array n e),.pointer (some ⟨b,o,none⟩),some i=>match aK P e,i with
  | some size,.ofNat j=>bif Nat.blt j n then some (.pointer (some ⟨b,o+j*size,none⟩)) else none
  | _,_=>none
 | some (.slice e),.slice (some ⟨b,o,none⟩) n _,some i=>match aK P e,i with
  | some size,.ofNat j=>bif Nat.blt j n then some (.pointer (some ⟨b,o+j*size,none⟩)) else none
  | _,_=>none
 | _,_,_=>none
def roomy (h:IH) (size:Nat) (x:Value):Bool :=
 match x with
 | .slice (some ⟨b,_,_⟩) _ _=>b % 2 == 0 && (match h.ext.get (b / 2) with
  | some (.cells _ e _)=>e == size
  | _=>false)
 | _=>false
def cJ (P:Program) (h:IH) (t:TypeId) (x:Value) (lo hi mx:Option Value):Option Value :=
 match P.underlying t with
 | some (.slice e)=>match aK P e with
  | some size=>de size (roomy h size x) x lo hi mx
  | none=>none
 | some (.array n e)=>match aK P e,asAddr x with
  | some size,some (b,o)=>de size false (.slice (some ⟨b,o,none⟩) n (2*n+1)) lo hi mx
  | _,_=>none
 | some (.pointer arr)=>match P.underlying arr with
  | some (.array n e)=>match aK P e,asAddr x with
   | some size,some (b,o)=>de size false (.slice (some ⟨b,o,none⟩) n (2*n+1)) lo hi mx
   | _,_=>none
  | _=>none
 | some .string=>bif plain x && (lo.all plain && hi.all plain && mx.all plain) then cw P (Instr.slice t x lo hi mx) else none
 | _=>none
def cX (fr:Fr):Option Operand→Option (Option Value)
 | none=>some none
 | some x=>(opd fr x).map some
def tR (P:Program) (h:IH) (dt:TypeId) (d s:Value):Option (Value×IH) :=
 match P.underlying dt,lenOf d,lenOf s with
 | some (.slice e),some dn,some sn=>match aK P e with
  | some size =>
   let n:=Nat.min sn dn
   match bL h size n s with
   | none=>none
   | some cs=>match d with
    | .slice none _ _=>some (.int .i64 n,h)
    | .slice (some ⟨b,o,none⟩) _ _=>bif cs.isEmpty then some (.int .i64 n,h) else bif !(cs.all aA) then none else (h.wr b o cs).map fun h=>(.int .i64 n,h)
    | _=>none
  | none=>none
 | _,_,_=>none
def vx (P:Program) (h:IH) (t:TypeId) (x:Value):Option (Value×IH) :=
 match P.underlying t,x with
 | some (.slice _),.slice none _ _=>some (.tuple #[],h)
 | some (.slice e),.slice (some ⟨b,o,none⟩) n _=>bif n == 0 then some (.tuple #[],h) else
  match aC P e with
  | some z=>bif z.isEmpty || !(z.all aA) then none else (h.wr b o (bq n z)).map fun h=>(.tuple #[],h)
  | none=>none
 | _,_=>none
def Xu (P:Program) (t:TypeId) (x:Value):Option Value :=
 match P.underlying t,x with
 | some (.slice _),.slice none _ _=>some (.int .i64 0)
 | some (.slice _),.slice (some ⟨_,_,none⟩) _ k=>bif k % 2 == 1 then some (.int .i64 ((k / 2:Nat):Int)) else none
 | _,_=>none
def nB (P:Program) (h:IH) (t:TypeId) (x:Value):Option Value :=
 match P.underlying t,x with
 | some .string,.string s=>some (.int .i64 s.size)
 | some (.array n _),_=>some (.int .i64 n)
 | some (.pointer a),_=>match P.underlying a with
  | some (.array n _)=>some (.int .i64 n)
  | _=>none
 | some (.slice _),.slice _ n _=>some (.int .i64 n)
 | some (.map _ _),.map none=>some (.int .i64 0)
 | some (.map _ _),.map (some r)=>(mapOf h r).map fun es=>.int .i64 es.length
 | _,_=>none
def bZ (P:Program) (t:Option TypeId):Bool :=
 match t with
 | some t=>match P.underlying t with
  | some (.slice _)=>true
  | _=>false
 | none=>false
def DN (P:Program) (t:Option TypeId):Bool :=
 match t with
 | some t=>match P.underlying t with
  | some (.int _)=>true
  | _=>false
 | none=>false
def nf (P:Program) (h:IH) (st:TypeId) (s x:Value):Option (Value×IH) :=
 match P.underlying st with
 | some (.slice elem)=>match aK P elem,gP P elem,aC P elem,iC x aN with
  | some size,some bytes,some zs,some n=>match s with
   | .slice none a c =>
    bif a == 0 && c == 0 && (Nat.blt 0 n && Nat.blt 0 size) && (Nat.ble bytes 65536 && zs.length == size) && (zs.all aA && Nat.ble (n*(bytes+1)) aN) then
     some (.slice (some ⟨2*h.n,0,none⟩) n (2*n),h.new (.cells (bq n zs) size none)) else none
   | _=>none
  | _,_,_,_=>none
 | _=>none
def builtin (P:Program) (h:IH) (b:Builtin) (ts:Array TypeId) (args:List Value):Option (Value×IH) :=
 match b,args with
 | .len,[x]=>match ts[0]? with
  | some t=>(nB P h t x).map (·,h)
  | none=>none
 | .append,[s,x]=>bif bZ P ts[1]? then
   (match ts[0]? with|some st=>append P h st s x|none=>none) else
   bif DN P ts[1]? then (match ts[0]? with|some st=>nf P h st s x|none=>none) else none
 | .copy,[d,s]=>match ts[0]? with
  | some dt=>tR P h dt d s
  | none=>none
 | .clear,[x]=>match ts[0]? with
  | some t=>vx P h t x
  | none=>none
 | .cap,[x]=>match ts[0]? with
  | some t=>(Xu P t x).map (·,h)
  | none=>none
 | .max,_=>bif args.all plain then (cw P (Builtin.max_ ts 0 args.toArray)).map (·,h) else none
 | .min,_=>bif args.all plain then (cw P (Builtin.min_ ts 0 args.toArray)).map (·,h) else none
 | _,_=>none
def iop (P:Program) (fr:Fr) (o:Op) (h:IH):Option (Value×IH) :=
 match o with
 | .move x|.assign x=>(opd fr x).map (·,h)
 | .pick c a b=>match opd fr c with
  | some (.bool true)=>(opd fr a).map (·,h)
  | some (.bool false)=>(opd fr b).map (·,h)
  | _=>none
 | .alloc t=>(aC P t).map fun z=>(ptr (2*h.n) 0,h.new (.cells z 0 none))
 | .box t x=>(opd fr x).map fun v=>(ptr (2*h.n) 0,h.new (.cells v.cells.toList 0 none))
 | .build t parts=>match aC P t,partsOf fr parts.toList with
  | some z,some ps=>bif cu P t then (cd (placeOf P t) z ps).map fun cs=>(.agg cs.toArray,h) else none
  | _,_=>none
 | .buildSlice t len parts=>match partsOf fr parts.toList with
  | some ps=>buildSlice P h t len ps
  | none=>none
 | .load t a=>match opd fr a with
  | some a=>(load P h t a).map (·,h)
  | none=>none
 | .store t a x=>match opd fr a,opd fr x with
  | some a,some v=>(store P h t a v).map (undef,·)
  | _,_=>none
 | .nilCheck x=>match opd fr x with
  | some (.pointer (some a))=>some (.pointer (some a),h)
  | some (.func (.func f) xs ys)=>some (.func (.func f) xs ys,h)
  | some (.func (.yield f) xs ys)=>some (.func (.yield f) xs ys,h)
  | some (.map r)=>some (.map r,h)
  | _=>none
 | .binOp op t x y _=>match opd fr x,opd fr y with
  | some a,some b=>(binop P op t x y a b).map (·,h)
  | _,_=>none
 | .unOp op _ x=>match opd fr x with
  | some v=>bif plain v then (cw P (Op.unary op v)).map (·,h) else none
  | none=>none
 | .convert s d x=>match opd fr x with
  | some v=>bif plain v then (cw P (Go.convert s d v)).map (·,h) else none
  | none=>none
 | .sliceToArrayPointer t x=>match P.underlying t,opd fr x with
  | some (.array n _),some (.slice (some ⟨b,o,none⟩) len k)=>bif Nat.ble n len && Nat.blt 0 k then some (.pointer (some ⟨b,o,none⟩),h) else none
  | _,_=>none
 | .makeFunc fn first cap=>match gA fr first.toList,gA fr cap.toList with
  | some a,some b=>match fn with
   | .func f=>some (.func (.func f) a.toArray b.toArray,h)
   | _=>none
  | _,_=>none
 | .makeMap t r=>match r with
  | none=>some (.map (some (2*h.n)),h.new (.map []))
  | some x=>match opd fr x,P.underlying t with
   | some (.int _ _),some (.map _ _)=>some (.map (some (2*h.n)),h.new (.map []))
   | _,_=>none
 | .makeSlice t l c=>match opd fr l,opd fr c with
  | some l,some c=>makeSlice P h t l c
  | _,_=>none
 | .slice t x lo hi mx=>match opd fr x,cX fr lo,cX fr hi,cX fr mx with
  | some x,some lo,some hi,some mx=>(cJ P h t x lo hi mx).map (·,h)
  | _,_,_,_=>none
 | .fieldAddr t x f=>match opd fr x,fu P t f with
  | some x,some f=>match asAddr x,aK P f.type with
   | some (b,o),some n=>bif n == 0 then none else some (ptr b (o+f.offset),h)
   | _,_=>none
  | _,_=>none
 | .field t x f=>match opd fr x,fu P t f with
  | some (.agg cs),some f=>(partOf P f.type cs f.offset).map (·,h)
  | _,_=>none
 | .indexAddr t x i=>match opd fr x,opd fr i with
  | some x,some i=>(indexAddr P t x i).map (·,h)
  | _,_=>none
 | .index t x i=>match opd fr x,opd fr i with
  | some (.agg cs),some i=>match P.underlying t,idxOf i with
   | some (.array n e),some (.ofNat j)=>bif Nat.blt j n then match aK P e with
     | some size=>(partOf P e cs (j*size)).map (·,h)
     | none=>none
    else none
   | _,_=>none
  | some (.string s),some i=>bif plain i then (cw P (Instr.index t (.string s) i)).map (·,h) else none
  | _,_=>none
 | .lookup t m k ok=>match opd fr m,opd fr k with
  | some m,some k=>(lookup P h t m k ok).map (·,h)
  | _,_=>none
 | .mapUpdate t m k v|.insert t m k v=>match opd fr m,opd fr k,opd fr v with
  | some m,some k,some v=>(mapUpdate P h t m k v).map (undef,·)
  | _,_,_=>none
 | .extract x i=>match opd fr x with
  | some (.tuple vs)=>(vs[i]?).map (·,h)
  | _=>none
 | .range t x=>match P.underlying t,opd fr x with
  | some (.map _ _),some (.map (some k))=>(mapOf h k).map fun es=>(ptr (2*h.n) 0,h.new (.iter k es.length [] es.length))
  | _,_=>none
 | .entry x=>match opd fr x with
  | some (.pointer (some ⟨b,0,none⟩))=>bif b % 2 == 1 then none else match h.ext.get (b / 2) with
   | some (.iter k _ seen last)=>match mapOf h k,seen.getLast? with
    | some es,some i=>bif es.length == last then (es[i]?).map fun e=>(.tuple #[e.1,e.2],h) else none
    | _,_=>none
   | _=>none
  | _=>none
 | .call c=>match c.callee with
  | .builtin b=>match gA fr c.args.toList with
   | some vs=>builtin P h b c.argTypes vs
   | none=>none
  | _=>none
 | _=>none
end Go.Id
namespace Go.Id
open Go
structure Env where
 P:Program
 lv:FuncId→Nat→Option (List Nat)
 rZ:FuncId→Option (List Value→IH→Option (Value×IH))
abbrev a8:=Value→List Value→IH→Option (Value×IH)
def bA (ops:List Oper) (o:Oper) (fr:Fr):Option Bool :=
 match o.guard with
 | none=>some true
 | some (j,want)=>match (ops[j]?).bind (·.dst) with
  | some d=>match ab fr d with
   | some (.bool b)=>some (b == want)
   | some (.tuple _)=>some false
   | _=>none
  | none=>none
def cU (E:Env) (call:a8) (fr:Fr) (o:Op) (h:IH):Option (Value×IH) :=
 match o with
 | .call c=>match c.callee with
  | .value f=>match opd fr f,gA fr c.args.toList with
   | some fv,some vs=>call fv vs h
   | _,_=>none
  | _=>iop E.P fr (.call c) h
 | o=>iop E.P fr o h
def cS (E:Env) (call:a8) (nt:Nat) (ops:List Oper) (o:Oper) (fr:Fr) (h:IH):Option (Fr×IH) :=
 match bA ops o fr with
 | some true=>match cU E call fr o.op h with
  | some (v,h)=>(mC nt fr o.dst v).map (·,h)
  | none=>none
 | some false=>(mC nt fr o.dst undef).map (·,h)
 | none=>none
def fi (E:Env) (call:a8) (nt:Nat) (ops:List Oper):List Oper→Fr→IH→Option (Fr×IH)
 | [],fr,h=>some (fr,h)
 | o :: l,fr,h=>match cS E call nt ops o fr h with
  | some (fr,h)=>fi E call nt ops l fr h
  | none=>none
inductive XS where
 | pure|load|alloc|chain
 deriving DecidableEq
def cB:Op→XS
 | .move _|.assign _|.pick _ _ _|.build _ _|.nilCheck _|.binOp _ _ _ _ _|.unOp _ _ _|.convert _ _ _|.sliceToArrayPointer _ _|.makeFunc _ _ _|.fieldAddr _ _ _|.field _ _ _
 | .indexAddr _ _ _|.index _ _ _|.extract _ _=>.pure
 | .load _ _|.lookup _ _ _ _|.slice _ _ _ _ _=>.load
 | .alloc _|.box _ _|.buildSlice _ _ _|.makeMap _ _|.makeSlice _ _ _=>.alloc
 | .call c=>match c.callee with
  | .builtin .len=>.load
  | .builtin .max=>.pure
  | .builtin .min=>.pure
  | _=>.chain
 | _=>.chain
def tD (acc:List Nat) (o:Oper):Nat:=o.after.toList.foldr (fun e s=>bif Region.binds .any e then s ||| 2 ^ e.on ||| acc.getD e.on 0 else s) 0
def pK:List Nat→List Oper→List Nat
 | acc,[]=>acc
 | acc,o :: l=>pK (acc ++ [tD acc o]) l
def tmpsOf (l:List Operand):List Nat:=l.filterMap fun x=>match x with|.tmp t=>some t|_=>none
def reads (ops:List Oper) (o:Oper):List Nat :=
 tmpsOf o.op.operands.toList ++ (match o.guard with|some (g,_)=>((ops[g]?).bind (·.dst)).toList|none => [])
def xM (ops:List Oper) (x y:Oper):Bool :=
 (match x.dst with|some d=>y.dst == some d || (reads ops y).contains d|none=>false) || (match y.dst with|some d=>(reads ops x).contains d|none=>false)
def lh (ops:List Oper):Bool :=
 let ms:=pK [] ops
 (List.range ops.length).all fun j=>match ops[j]? with
  | none=>true
  | some y =>
   y.after.toList.all (fun e => !Region.binds .any e || Nat.blt e.on j) &&
   (match y.guard with|none=>true|some (g,_)=>(ms.getD j 0).testBit g) &&
   (List.range j).all fun i=>match ops[i]? with
    | none=>true
    | some x=>(ms.getD j 0).testBit i || !(xM ops x y || (cB x.op == .chain && cB y.op == .chain))
def xX (ops:List Oper):List (Nat×List Nat) :=
 let ms:=pK [] ops
 let chain:=(List.range ops.length).filter fun k=>match ops[k]? with|some o=>cB o.op == .chain|none=>false
 (List.range ops.length).filterMap fun i=>match ops[i]? with
  | none=>none
  | some o=>bif cB o.op == .load then
    some (i,(chain ++ [ops.length]).filter fun p =>
     chain.all fun k=>bif Nat.blt k p then !(ms.getD k 0).testBit i else !(ms.getD i 0).testBit k)
   else none
def trace (E:Env) (call:a8) (nt:Nat) (ops:List Oper):List Oper→Fr→IH→Option (List (Fr×IH))
 | [],fr,h=>some [(fr,h)]
 | o :: l,fr,h=>match cS E call nt ops o fr h with
  | some (fr',h')=>(trace E call nt ops l fr' h').map ((fr,h) :: ·)
  | none=>none
def eqS:Value→Value→Bool
 | .bool a,.bool b=>a == b
 | .int j a,.int k b=>j == k && a == b
 | .string a,.string b=>a.data.toList == b.data.toList
 | .pointer a,.pointer b=>a == b
 | .slice a n c,.slice b m d=>a == b && n == m && c == d
 | .map a,.map b=>a == b
 | .nilFunc,.nilFunc=>true
 | .nilIface,.nilIface=>true
 | _,_=>false
def eqL:List Value→List Value→Bool
 | [],[]=>true
 | a :: l,b :: m=>eqS a b && eqL l m
 | _,_=>false
def eqA:Value→Value→Bool
 | .agg a,.agg b=>eqL a.toList b.toList
 | .func f a c,.func g b d=>f == g && eqL a.toList b.toList && eqL c.toList d.toList
 | a,b=>eqS a b
def eqT:List Value→List Value→Bool
 | [],[]=>true
 | a :: l,b :: m=>eqA a b && eqT l m
 | _,_=>false
def Xl:Value→Value→Bool
 | .tuple a,.tuple b=>eqT a.toList b.toList
 | a,b=>eqA a b
noncomputable def eqV (a b:Value):Bool:=Xl a b || @decide (a=b) (Classical.propDecidable _)
theorem GX (a:Value):eqV a a=true:=by simp[eqV]
noncomputable section
def gE (P:Program) (fr:Fr) (o:Op) (h h':IH):Bool :=
 match iop P fr o h,iop P fr o h' with
 | some (v,_),some (v',_)=>eqV v v'
 | _,_=>false
def steady (P:Program) (ops:List Oper) (tr:List (Fr×IH)) (pl:List (Nat×List Nat)):Bool :=
 pl.all fun e=>match ops[e.1]?,tr[e.1]? with
  | some o,some (fr,h)=>match bA ops o fr with
   | some true=>e.2.all fun p=>match tr[p]? with
    | some (_,h')=>gE P fr o.op h h'
    | none=>false
   | _=>true
  | _,_=>false
def gH (E:Env) (call:a8) (nt:Nat) (ops:List Oper) (fr:Fr) (h:IH):Option (Fr×IH) :=
 match trace E call nt ops ops fr h with
 | none=>none
 | some tr=>bif lh ops && steady E.P ops tr (xX ops) then tr[ops.length]? else none
inductive bf where
 | normal
 | exit (id:Nat)
 | ret
abbrev Out:=Option (bf×Fr×IH)
def mf (b:Fr→IH→Out):Nat→Fr→IH→Out
 | 0,_,_=>none
 | n+1,fr,h=>match b fr h with
  | some (.normal,fr,h)=>mf b n fr h
  | some (.exit i,fr,h)=>some (.exit i,fr,h)
  | some (.ret,fr,h)=>some (.ret,fr,h)
  | none=>none
def gM (E:Env) (fn:FuncId) (id:Nat) (fr:Fr):Fr :=
 match E.lv fn id with
 | some l=>dV fr l
 | none=>fr
def fj (h:IH) (k:Nat):Option gT :=
 match h.ext.get k with
 | some (.loop r)=>some r
 | _=>none
def tQ:Option Code→Option bf
 | none=>some .normal
 | some (.exit i)=>some (.exit i)
 | some .ret=>some .ret
 | _=>none
def oR (h:IH):Option Nat→Bool
 | none=>true
 | some l=>(fj h l).isSome
def jX (E:Env) (call:a8) (fn:FuncId) (nt:Nat) (rd:Option Nat) (f:Operand) (params:List Nat) (assign body:Code) (fr:Fr) (h:IH):Out :=
 match (bif oR h rd then opd fr f else none) with
 | none=>none
 | some fv =>
  match call fv [.func (.yield (2*h.n)) #[] #[]] (h.new (.loop { state:=.ready,pending:=none,fn,nt,fr,params,assign,body })) with
  | none=>none
  | some (_,h1)=>match fj h1 h.n with
   | none=>none
   | some r=>bif r.state == .busy then none else match tQ r.pending with
    | none=>none
    | some e=>some (e,fr,{ h1 with ext:=h1.ext.set h.n .dead })
def qJ (ops:List Oper) (draw:Bool):Option (Nat×Nat×Nat) :=
 match draw,ops with
 | false,[⟨some nx,.next (.tmp it) false,_,_,_,none⟩,⟨some more,.extract (.tmp x) 0,_,_,_,none⟩]=>bif x == nx then some (it,nx,more) else none
 | _,_=>none
def oX (nt nx more:Nat) (v:Value) (b:Bool) (fr:Fr):Option Fr :=
 match mC nt fr (some nx) v with
 | some fr=>mC nt fr (some more) (.bool b)
 | none=>none
def DM (fr:Fr) (h:IH) (it kb k:Nat) (es:List (Value×Value)) (seen:List Nat):Prop :=
 ab fr it=some (ptr (2*kb) 0)∧h.ext.get kb=some (.iter k es.length seen es.length)∧mapOf h k=some es
open Classical in
def eE (rest:Fr→IH→Out) (hd:Fr→Fr) (nt it nx more kb k:Nat) (es:List (Value×Value)):List Nat→List Nat→Fr→IH→Out
 | [],seen,fr,h=>if DM (hd fr) h it kb k es seen then
   match oX nt nx more (.tuple #[.bool false]) false (hd fr) with
   | none=>none
   | some fr=>match rest fr h with
    | some (.normal,_,_)=>none
    | o=>o
  else none
 | i :: l,seen,fr,h=>if DM (hd fr) h it kb k es seen then
   match es[i]? with
   | none=>none
   | some e=>match oX nt nx more (.tuple #[.bool true,e.1,e.2]) true (hd fr) with
    | none=>none
    | some fr=>match rest fr { h with ext:=h.ext.set kb (.iter k es.length (seen ++ [i]) es.length) } with
     | some (.normal,fr,h)=>eE rest hd nt it nx more kb k es l (seen ++ [i]) fr h
     | o=>o
  else none
open Classical in
def common (nt n:Nat) (R:List Nat→Out):Out :=
 if c : ∃o:bf×IH,∀l:List Nat,l.Perm (List.range n) → ∃fr,R l=some (o.1,fr,o.2) then
  some (c.choose.1,(List.range nt).filterMap (fun t=>if d : ∃v,∀l:List Nat,l.Perm (List.range n) → ∀e fr h,R l=some (e,fr,h)→ab fr t=some v then some (t,d.choose) else none),c.choose.2)
 else none
def GI (kb:Nat):Out→Out
 | none=>none
 | some p=>match p.2.2.ext.get kb with
  | some (.iter _ _ _ _)=>some (p.1,p.2.1,{ p.2.2 with ext:=p.2.2.ext.set kb .dead })
  | _=>none
open Classical in
def rK (rest:Fr→IH→Out) (hd:Fr→Fr) (nt it nx more:Nat) (fr:Fr) (h:IH):Out :=
 match ab (hd fr) it with
 | some (.pointer (some ⟨b,0,none⟩))=>bif b % 2 == 1 then none else match h.ext.get (b / 2) with
  | some (.iter k _ _ _)=>match mapOf h k with
   | some es=>common nt es.length fun l=>if l.Perm (List.range es.length) then GI (b / 2) (eE rest hd nt it nx more (b / 2) k es l [] fr h) else none
   | none=>none
  | _=>none
 | _=>none
def evC (E:Env) (call:a8) (fn:FuncId) (nt:Nat) (rd:Option Nat) (n:Nat):Code→Fr→IH→Out
 | .skip,fr,h=>some (.normal,fr,h)
 | .label _,fr,h=>some (.normal,fr,h)
 | .region id ops draw,fr,h =>
  match (bif draw then gH E call nt ops.toList (gM E fn id fr) h else fi E call nt ops.toList ops.toList (gM E fn id fr) h) with
  | some (fr,h)=>some (.normal,fr,h)
  | none=>none
 | .seq a b,fr,h=>match evC E call fn nt rd n a fr h with
  | some (.normal,fr,h)=>evC E call fn nt rd n b fr h
  | some (.exit i,fr,h)=>some (.exit i,fr,h)
  | some (.ret,fr,h)=>some (.ret,fr,h)
  | none=>none
 | .cond c a b,fr,h=>match opd fr c with
  | some (.bool true)=>evC E call fn nt rd n a fr h
  | some (.bool false)=>evC E call fn nt rd n b fr h
  | _=>none
 | .block id b,fr,h=>match evC E call fn nt rd n b fr h with
  | some (.exit i,fr,h)=>bif i == id then some (.normal,fr,h) else some (.exit i,fr,h)
  | some (.normal,fr,h)=>some (.normal,fr,h)
  | some (.ret,fr,h)=>some (.ret,fr,h)
  | none=>none
 | .loop b,fr,h=>match b with
  | .seq (.region id ops draw) rest=>match qJ ops.toList draw with
   | some (it,nx,more)=>rK (evC E call fn nt rd n rest) (gM E fn id) nt it nx more fr h
   | none=>mf (evC E call fn nt rd n (.seq (.region id ops draw) rest)) n fr h
  | b=>mf (evC E call fn nt rd n b) n fr h
 | .scope b,fr,h=>evC E call fn nt rd n b fr h
 | .rangeFunc f ps a b,fr,h=>jX E call fn nt rd f ps.toList a b fr h
 | .exit i,fr,h=>some (.exit i,fr,h)
 | .ret,fr,h=>some (.ret,fr,h)
 | .goto _,_,_=>none
 | .refuse _,_,_=>none
def gI (P:Program) (fr:Fr) (h:IH):ResultVar→Option Value
 | .tmp t=>ab fr t
 | .cell a t=>match ab fr a with
  | some v=>load P h t v
  | none=>none
def bd (P:Program) (fr:Fr) (h:IH):List ResultVar→Option (List Value)
 | []=>some []
 | r :: l=>match gI P fr h r,bd P fr h l with
  | some v,some vs=>some (v :: vs)
  | _,_=>none
def single:List Value→Value
 | [v]=>v
 | vs=>.tuple vs.toArray
def mw (name:String) (args:List Value):Option Value :=
 match args with
 | [.int .u64 (.ofNat x),.int .u64 (.ofNat y),.int .u64 (.ofNat c)]=>bif Nat.ble c 1 then
   (bif name == "math/bits.Add64" then some (.tuple #[.int .u64 ((x+y+c) % 18446744073709551616:Nat),.int .u64 ((x+y+c) / 18446744073709551616:Nat)])
    else bif name == "math/bits.Sub64" then some (.tuple #[.int .u64 ((x+18446744073709551616 - y - c) % 18446744073709551616:Nat),.int .u64 ((bif Nat.blt x (y+c) then 1 else 0:Nat))]) else none)
  else none
 | _=>none
def nD (E:Env) (call:a8) (n:Nat) (f:FuncId) (args:List Value) (h:IH):Option (Value×IH) :=
 match E.rZ f with
 | some g=>g args h
 | none=>match E.P.funcs[f]? with
  | none=>none
  | some fn=>match fn.body with
   | none=>(mw fn.name args).map (·,h)
   | some c=>bif Nat.ble args.length fn.ntmps then
     match evC E call f fn.ntmps none n c (dD 0 args) h with
     | some (.exit _,_,_)=>none
     | some (_,fr,h)=>(bd E.P fr h fn.results.toList).map fun vs=>(single vs,h)
     | none=>none
    else none
def dQ (nt:Nat):List Nat→List Value→Fr→Option Fr
 | [],[],fr=>some fr
 | t :: l,v :: vs,fr=>match mC nt fr (some t) v with
  | some fr=>dQ nt l vs fr
  | none=>none
 | _,_,_=>none
def dE (E:Env) (call:a8) (n:Nat) (l:Nat) (args:List Value) (h:IH):Option (Value×IH) :=
 match fj h l with
 | none=>none
 | some r=>match dQ r.nt r.params args r.fr with
  | none=>none
  | some fr=>match evC E call r.fn r.nt (some l) n r.assign fr h with
   | some (.normal,fr,h)=>match fj h l with
    | none=>none
    | some r1=>bif r1.state == .ready then
      match evC E call r.fn r.nt (some l) n r.body fr { h with ext:=h.ext.set l (.loop { r1 with state:=.busy }) } with
      | none=>none
      | some (e,_,h)=>match fj h l with
       | none=>none
       | some r2=>match e with
        | .normal=>some (.bool true,{ h with ext:=h.ext.set l (.loop { r2 with state:=.ready,pending:=none }) })
        | .exit i=>some (.bool false,{ h with ext:=h.ext.set l (.loop { r2 with state:=.done,pending:=some (.exit i) }) })
        | .ret=>some (.bool false,{ h with ext:=h.ext.set l (.loop { r2 with state:=.done,pending:=some .ret }) })
     else none
   | _=>none
def bU (E:Env):Nat→a8
 | 0,_,_,_=>none
 | n+1,fv,vs,h=>match fv with
  | .func (.func f) first cap=>nD E (bU E n) n f (first.toList ++ (vs ++ cap.toList)) h
  | .func (.yield l) first _=>bif l % 2 == 0 then dE E (bU E n) n (l / 2) (first.toList ++ vs) h else none
  | _=>none
end
end Go.Id
