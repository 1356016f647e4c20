/-
  The ideal machine written for the kernel, second part: operations. The ideal machine written for the kernel, third part: regions, code, calls.
-/
import Derived.Test.YthpefnfbnaekaaaGreatBracketDividesAl
import Derived.Test.YthpefnfbnaekaaaGreatBracketDividesAg
import Derived.Test.YthpefnfbnaekaaaGreatBracketDividesAh
import Derived.Test.YthpefnfbnaekaaaGreatBracketDividesAk
set_option linter.unusedVariables false
set_option linter.unusedSimpArgs false
set_option linter.defProp false
set_option linter.deprecated false
namespace Go.Id
open Go
noncomputable section
abbrev OpSem:=Env→CallV→Fr→IH→Option (Value×IH)
def okV (h:IH) (o:Option Value):Option (Value×IH):=bO o fun v=>some (v,h)
theorem okV_eq (h:IH) (o:Option Value):okV h o=o.map (·,h):=by cases o<;>rfl
def okH (o:Option IH):Option (Value×IH):=bO o fun h=>some (undef,h)
theorem okH_eq (o:Option IH):okH o=o.map (undef,·):=by cases o<;>rfl
def forceS (v:Value):Value:=match v with
 | .slice (some ⟨b,o,none⟩) n c=>fN b fun b=>fN o fun o=>fN n fun n=>fN c fun c=>.slice (some ⟨b,o,none⟩) n c
 | v=>v
theorem forceS_eq (v:Value):forceS v=v:=by
 unfold forceS
 split
 ·simp only[fN_eq]
 ·rfl
def partsF (l:List (Nat×Operand)) (fr:Fr):Option (List (Nat×Value)):=List.rec (motive:=fun _=>Option (List (Nat×Value))) (some []) (fun p _ ih=>bO (opdF p.2 fr) fun v=>bO ih fun vs=>some ((p.1,v) :: vs)) l
theorem partsF_eq : ∀(l:List (Nat×Operand)) (fr:Fr),partsF l fr=partsOf fr l
 | [],_=>rfl
 | (i,x) :: l,fr=>by
  show bO (opdF x fr) (fun v=>bO (partsF l fr) fun vs=>some ((i,v) :: vs))=_
  rw[opdF_eq,partsF_eq l fr,partsOf]
  cases opd fr x<;>cases partsOf fr l<;>rfl
def fillF (place:Nat→Option (Nat×Nat)) (l:List (Nat×Value)) (cells:List Value):Option (List Value):=List.rec (motive:=fun _=>List Value→Option (List Value)) (fun c=>some c) (fun p _ ih cells=>bO (place p.1) fun q=>iB (Nat.beq (lenL (cellsL p.2)) q.2) (bO (spliceF q.1 (cellsL p.2) cells) ih) none) l cells
theorem fillF_eq (place:Nat→Option (Nat×Nat)) : ∀(l:List (Nat×Value)) (cells:List Value),fillF place l cells=fillP place cells l
 | [],_=>rfl
 | (i,v) :: l,cells=>by
  show bO (place i) (fun q=>iB (Nat.beq (lenL (cellsL v)) q.2) (bO (spliceF q.1 (cellsL v) cells) (fillF place l)) none)=_
  rw[fillP]
  cases hp:place i with
  | none=>rfl
  | some q =>
   obtain⟨o,n⟩:=q
   simp only[bO_some,cellsL_eq,lenL_eq,spliceF_some,beqN,Array.length_toList]
   cases hn:Nat.beq v.cells.size n with
   | false=>rfl
   | true =>
    have hn:=Nat.beq_eq.mp hn
    subst hn
    simp only[iB_true,Bool.true_and]
    cases Nat.ble (o+v.cells.size) cells.length with
    | false=>rfl
    | true=>exact fillF_eq place l _
def partF (P:Program) (t:TypeId) (l:List Value) (off:Nat):Option Value:=bO (isAggT P t) fun g=>iB g (bO (sizeT P t) fun n=>some (.agg ⟨takeL n (dropF off l)⟩)) (nthF off l)
theorem partF_eq (P:Program) (t:TypeId) (cs:Array Value) (off:Nat):partF P t cs.toList off=partOf P t cs off:=by
 unfold partF partOf
 cases isAggT P t with
 | none=>cases sizeT P t<;>rfl
 | some g =>
  cases g with
  | false =>
   simp only[bO_some,iB_false,nthF_eq]
   exact Array.getElem?_toList
  | true =>
   simp only[bO_some,iB_true]
   cases sizeT P t with
   | none=>rfl
   | some n =>
    simp only[bO_some,takeL_eq,dropF_eq]
    refine congrArg (fun a=>some (Value.agg a)) ?_
    apply Array.ext'
    simp[Array.toList_extract]
def moveF (x:Operand):OpSem:=fun _ _ fr h=>okV h (opdF x fr)
def pickF (c a b:Operand):OpSem:=fun _ _ fr h=>bO (opdF c fr) fun v=>match v with
 | .bool t=>iB t (okV h (opdF a fr)) (okV h (opdF b fr))
 | _=>none
def freshF (h:IH) (o:IObj):Option (Value×IH):=newF h o fun n h=>fN (Nat.mul 2 n) fun b=>some (.pointer (some ⟨b,0,none⟩),h)
theorem freshF_eq (h:IH) (o:IObj):freshF h o=some (ptr (2*h.n) 0,h.new o):=by
 unfold freshF
 rw[newF_eq,fN_eq];rfl
def allocF (t:TypeId):OpSem:=fun E _ _ h=>bO (zeroCellsT E.P t) fun z=>freshF h (.cells z 0 none)
def boxF (_:TypeId) (x:Operand):OpSem:=fun _ _ fr h=>bO (opdF x fr) fun v=>freshF h (.cells (cellsL v) 0 none)
def buildF (t:TypeId) (parts:Array (Nat×Operand)):OpSem:=fun E _ fr h=>bO (zeroCellsT E.P t) fun z=>bO (partsF parts.toList fr) fun ps=>iB (allSized E.P t) (bO (fillF (placeOf E.P t) ps z) fun cs=>some (.agg ⟨cs⟩,h)) none
def elemT (P:Program) (t:TypeId):Option TypeId:=match P.underlying t with
 | some (.slice e)=>some e
 | _=>none
def sliceNew (h:IH) (cells:List Value) (n len c:Nat):Option (Value×IH):=newF h (.cells cells n none) fun k h=>fN (Nat.mul 2 k) fun b=>fN c fun c=>some (.slice (some ⟨b,0,none⟩) len c,h)
theorem sliceNew_eq (h:IH) (cells:List Value) (n len c:Nat):sliceNew h cells n len c=some (.slice (some ⟨2*h.n,0,none⟩) len c,h.new (.cells cells n none)):=by
 unfold sliceNew
 rw[newF_eq,fN_eq,fN_eq];rfl
def buildSliceF (t:TypeId) (len:Nat) (parts:Array (Nat×Operand)):OpSem:=fun E _ fr h=>bO (partsF parts.toList fr) fun ps=>bO (elemT E.P t) fun e=>bO (sizeT E.P e) fun n=>bO (zeroCellsT E.P e) fun z =>
 iB (Nat.ble (Nat.mul len n) cellsMost) (iB (Nat.beq (lenL z) n) (bO (fillF (fun i=>some (Nat.mul i n,n)) ps (replF len z)) fun cells=>sliceNew h cells n len (Nat.succ (Nat.mul 2 len))) none) none
def loadOpF (t:TypeId) (a:Operand):OpSem:=fun E _ fr h=>bO (opdF a fr) fun a=>okV h (loadF E.P h t a)
def storeOpF (t:TypeId) (a x:Operand):OpSem:=fun E _ fr h=>bO (opdF a fr) fun a=>bO (opdF x fr) fun v=>okH (storeF E.P h t a v)
def nilCheckF (x:Operand):OpSem:=fun _ _ fr h=>bO (opdF x fr) fun v=>match v with
 | .pointer (some a)=>some (.pointer (some a),h)
 | .func (.func f) xs ys=>some (.func (.func f) xs ys,h)
 | .func (.yield f) xs ys=>some (.func (.yield f) xs ys,h)
 | .map r=>some (.map r,h)
 | _=>none
def binOpF (op:BinOp) (t:TypeId) (x y:Operand) (_:TypeId):OpSem:=fun E _ fr h=>bO (opdF x fr) fun a=>bO (opdF y fr) fun b=>okV h (binopF E.P op t x y a b)
def unF (P:Program) (op:UnOp) (v:Value):Option Value:=match op,v with
 | .not,.bool b=>some (.bool (not b))
 | op,v=>bif plain v then pureVal P (Op.unary op v) else none
theorem unF_eq (P:Program) (op:UnOp) (v:Value):unF P op v=bif plain v then pureVal P (Op.unary op v) else none:=by
 unfold unF
 split
 ·rename_i b;exact(unary_not P b).symm
 ·rfl
def unOpF (op:UnOp) (_:TypeId) (x:Operand):OpSem:=fun E _ fr h=>bO (opdF x fr) fun v=>okV h (unF E.P op v)
def intT (P:Program) (t:TypeId):Option IntKind:=match P.underlying t with
 | some (.int k)=>some k
 | _=>none
def convF (P:Program) (s d:TypeId) (v:Value):Option Value:=match v with
 | .int k (.ofNat n)=>orElse (iB (P.underlying s).isSome (bO (intT P d) fun k'=>okI k' n) none) (convV P s d (.int k (.ofNat n)))
 | v=>convV P s d v
theorem convF_eq (P:Program) (s d:TypeId) (v:Value):convF P s d v=convV P s d v:=by
 unfold convF
 split
 ·rename_i k n
  refine orElse_eq (fun v h=>?_) rfl
  obtain⟨h0,h⟩:=iB_some h
  unfold intT at h
  split at h
  ·rename_i k' hd
   obtain⟨h1,rfl⟩:=okI_some h
   rw[show(Int.ofNat n)=(n:Int) from rfl,convV_int h0 hd,wrap_lim h1]
  ·cases h
 ·rfl
def convertF (s d:TypeId) (x:Operand):OpSem:=fun E _ fr h=>bO (opdF x fr) fun v=>okV h (convF E.P s d v)
def restF (o:Op):OpSem:=fun E _ fr h=>iop E.P fr o h
def makeFuncF (fn:Fn) (first cap:Array Operand):OpSem:=fun _ _ fr h=>bO (opdsF first.toList fr) fun a=>bO (opdsF cap.toList fr) fun b=>match fn with
 | .func f=>some (.func (.func f) ⟨a⟩ ⟨b⟩,h)
 | _=>none
def makeSliceV (P:Program) (h:IH) (t:TypeId) (l c:Value):Option (Value×IH):=bO (elemT P t) fun e=>bO (natOf l sizeMost) fun l=>bO (natOf c sizeMost) fun c=>bO (sizeT P e) fun n=>bO (bytesT P e) fun by_=>bO (zeroCellsT P e) fun z =>
 iB (Nat.ble l c) (iB (Nat.ble (Nat.mul c (Nat.succ by_)) sizeMost) (iB (Nat.beq (lenL z) n) (sliceNew h (replF c z) n l (Nat.succ (Nat.mul 2 c))) none) none) none
theorem makeSliceV_eq (P:Program) (h:IH) (t:TypeId) (l c:Value):makeSliceV P h t l c=makeSlice P h t l c:=by
 unfold makeSliceV makeSlice elemT
 cases P.underlying t with
 | none=>rfl
 | some d =>
  cases d with
  | slice e =>
   simp only[bO_some]
   cases natOf l sizeMost with
   | none=>rfl
   | some l =>
    cases natOf c sizeMost with
    | none=>rfl
    | some c =>
     cases sizeT P e with
     | none=>rfl
     | some n =>
      cases bytesT P e with
      | none=>rfl
      | some b =>
       cases zeroCellsT P e with
       | none=>rfl
       | some z =>
        simp only[bO_some,sliceNew_eq,replF_eq,lenL_eq,iB_eq,beqN]
        show(bif Nat.ble l c then (bif Nat.ble (c*(b+1)) sizeMost then (bif Nat.beq z.length n then _ else none) else none) else none)=_
        cases Nat.ble l c<;>cases Nat.ble (c*(b+1)) sizeMost<;>cases Nat.beq z.length n<;>rfl
  | _=>rfl
def makeSliceF (t:TypeId) (l c:Operand):OpSem:=fun E _ fr h=>bO (opdF l fr) fun l=>bO (opdF c fr) fun c=>makeSliceV E.P h t l c
def optF (fr:Fr) (o:Option Operand):Option (Option Value):=Option.rec (motive:=fun _=>Option (Option Value)) (some none) (fun x=>bO (opdF x fr) fun v=>some (some v)) o
theorem optF_eq (fr:Fr) (o:Option Operand):optF fr o=optOpd fr o:=by
 cases o with
 | none=>rfl
 | some x =>
  show bO (opdF x fr) (fun v=>some (some v))=(opd fr x).map some
  rw[opdF_eq]
  cases opd fr x<;>rfl
def sliceF (t:TypeId) (x:Operand) (lo hi mx:Option Operand):OpSem:=fun E _ fr h=>bO (opdF x fr) fun x=>bO (optF fr lo) fun lo=>bO (optF fr hi) fun hi=>bO (optF fr mx) fun mx=>bO (sliceOp E.P h t x lo hi mx) fun v=>some (forceS v,h)
def addrOf (v:Value) (k:Nat→Nat→Option (Value×IH)):Option (Value×IH):=match v with
 | .pointer (some ⟨b,o,none⟩)=>k b o
 | _=>none
theorem addrOf_eq (v:Value) (k:Nat→Nat→Option (Value×IH)):addrOf v k=bO (asAddr v) fun a=>k a.1 a.2:=by
 unfold addrOf asAddr
 split
 ·rfl
 ·rename_i hv
  split
  ·exact absurd rfl (hv _ _)
  ·rfl
def fieldAddrF (t:TypeId) (x:Operand) (f:Nat):OpSem:=fun E _ fr h=>bO (opdF x fr) fun x=>bO (fieldOf E.P t f) fun f=>bO (sizeT E.P f.type) fun n=>addrOf x fun b o=>iB (Nat.beq n 0) none (fN (Nat.add o f.offset) fun o=>some (.pointer (some ⟨b,o,none⟩),h))
def fieldF (t:TypeId) (x:Operand) (f:Nat):OpSem:=fun E _ fr h=>bO (opdF x fr) fun x=>bO (fieldOf E.P t f) fun f=>match x with
 | .agg cs=>okV h (partF E.P f.type cs.toList f.offset)
 | _=>none
def eaT (P:Program) (t:TypeId):Option (Option Nat×Nat):=match P.underlying t with
 | some (.array n e)=>(sizeT P e).map fun s=>(some n,s)
 | some (.slice e)=>(sizeT P e).map fun s=>(none,s)
 | _=>none
def indexAddrV (P:Program) (t:TypeId) (x i:Value):Option Value:=match x,i with
 | .slice (some ⟨b,o,none⟩) n c,.int k (.ofNat j)=>bO (eaT P t) fun e=>Option.rec (motive:=fun _=>Option Value) (iB (Nat.ble (Nat.succ j) n) (fN (Nat.add o (Nat.mul j e.2)) fun o=>some (.pointer (some ⟨b,o,none⟩))) none) (fun _=>indexAddr P t (.slice (some ⟨b,o,none⟩) n c) (.int k (.ofNat j))) e.1
 | .pointer (some ⟨b,o,none⟩),.int k (.ofNat j)=>bO (eaT P t) fun e=>Option.rec (motive:=fun _=>Option Value) (indexAddr P t (.pointer (some ⟨b,o,none⟩)) (.int k (.ofNat j))) (fun n=>iB (Nat.ble (Nat.succ j) n) (fN (Nat.add o (Nat.mul j e.2)) fun o=>some (.pointer (some ⟨b,o,none⟩))) none) e.1
 | x,i=>indexAddr P t x i
theorem indexAddrV_eq (P:Program) (t:TypeId) (x i:Value):indexAddrV P t x i=indexAddr P t x i:=by
 unfold indexAddrV
 split
 ·rename_i b o n c k j
  unfold eaT indexAddr
  cases hu:P.underlying t with
  | none=>rfl
  | some d =>
   cases d with
   | array n e =>
    simp only[]
    cases sizeT P e<;>rfl
   | slice e =>
    simp only[idxOf]
    cases sizeT P e with
    | none=>rfl
    | some s =>
     simp only[Option.map_some,bO_some,iB_eq,fN_eq];rfl
   | _=>rfl
 ·rename_i b o k j
  unfold eaT indexAddr
  cases hu:P.underlying t with
  | none=>rfl
  | some d =>
   cases d with
   | array n e =>
    simp only[idxOf]
    cases sizeT P e with
    | none=>rfl
    | some s =>
     simp only[Option.map_some,bO_some,iB_eq,fN_eq];rfl
   | slice e =>
    simp only[]
    cases sizeT P e<;>rfl
   | _=>rfl
 ·rfl
def indexAddrF (t:TypeId) (x i:Operand):OpSem:=fun E _ fr h=>bO (opdF x fr) fun x=>bO (opdF i fr) fun i=>okV h (indexAddrV E.P t x i)
def indexVF (P:Program) (h:IH) (t:TypeId) (x i:Value):Option (Value×IH):=match x with
 | .agg cs=>match P.underlying t,idxOf i with
   | some (.array n e),some (.ofNat j)=>bif Nat.blt j n then match sizeT P e with
     | some size=>okV h (partF P e cs.toList (Nat.mul j size))
     | none=>none
    else none
   | _,_=>none
 | .string s=>bif plain i then (pureVal P (Instr.index t (.string s) i)).map (·,h) else none
 | _=>none
def indexF (t:TypeId) (x i:Operand):OpSem:=fun E _ fr h=>bO (opdF x fr) fun x=>bO (opdF i fr) fun i=>indexVF E.P h t x i
def lookupF (t:TypeId) (m k:Operand) (ok:Bool):OpSem:=fun E _ fr h=>bO (opdF m fr) fun m=>bO (opdF k fr) fun k=>okV h (lookup E.P h t m k ok)
def mapUpdateF (t:TypeId) (m k v:Operand):OpSem:=fun E _ fr h=>bO (opdF m fr) fun m=>bO (opdF k fr) fun k=>bO (opdF v fr) fun v=>okH (mapUpdate E.P h t m k v)
def extractF (x:Operand) (i:Nat):OpSem:=fun _ _ fr h=>bO (opdF x fr) fun v=>match v with
 | .tuple vs=>okV h (nthF i vs.toList)
 | _=>none
def firstF (h:IH) (size n:Nat) (x:Value):Option (List Value):=match x with
 | .slice none _ _=>some []
 | .slice (some ⟨b,o,none⟩) len _=>iB (Nat.ble n len) (fN (Nat.mul n size) fun m=>iB (Nat.beq m 0) (some []) (rdN h b o m)) none
 | _=>none
theorem firstF_eq (h:IH) (size n:Nat) (x:Value):firstF h size n x=firstOf h size n x:=by
 unfold firstF firstOf
 split
 ·rfl
 ·rename_i b o len c
  simp only[fN_eq,iB_eq,beqN]
  show(bif Nat.ble n len then (bif Nat.beq (n*size) 0 then some [] else rdN h b o (n*size)) else none)=bif Nat.ble n len then (bif Nat.beq (n*size) 0 then some [] else h.rd b o (n*size)) else none
  cases hz:Nat.beq (n*size) 0 with
  | true=>rfl
  | false=>rw[rdN_eq h b o (n*size) (fun e=>by rw[e] at hz;cases hz)]
 ·rename_i h1 h2
  split
  ·exact absurd rfl (h1 _ _)
  ·exact absurd rfl (h2 _ _ _ _)
  ·rfl
def twF (b:Nat) (l:List Nat):List Nat:=List.rec (motive:=fun _=>List Nat) [] (fun a _ ih=>iB (Nat.beq a b) [] (a :: ih)) l
theorem twF_eq (b:Nat) : ∀l:List Nat,twF b l=l.takeWhile (· != b)
 | []=>rfl
 | a :: l=>by
  show iB (Nat.beq a b) [] (a :: twF b l)=_
  rw[twF_eq b l,List.takeWhile_cons,bne,beqN]
  cases Nat.beq a b<;>rfl
def dwF (b:Nat) (l:List Nat):List Nat:=List.rec (motive:=fun _=>List Nat) [] (fun a l ih=>iB (Nat.beq a b) l ih) l
theorem dwF_eq (b:Nat) : ∀l:List Nat,dwF b l=(l.dropWhile (· != b)).drop 1
 | []=>rfl
 | a :: l=>by
  show iB (Nat.beq a b) l (dwF b l)=_
  rw[dwF_eq b l,List.dropWhile_cons,bne,beqN]
  cases Nat.beq a b<;>rfl
def killF (l:List Nat) (e:Tr IObj):Tr IObj:=List.rec (motive:=fun _=>Tr IObj→Tr IObj) (fun e=>e) (fun k _ ih e=>trPut .dead e k ih) l e
theorem killF_eq : ∀(l:List Nat) (e:Tr IObj),killF l e=IH.killAll e l
 | [],_=>rfl
 | k :: l,e=>by
  show trPut .dead e k (killF l)=_
  rw[trPut_eq,killF_eq l];rfl
def grownF (h:IH) (k f:Nat) (cs:List Value) (t:Nat) (above below:List Nat) (cs':List Value) (t' len:Nat):Option (Value×IH) :=
 fN h.n fun n=>trPut (.cells cs t (some f)) (killF above h.ext) k fun e=>trPut (.cells cs' t' (some f)) e n fun e=>trPut (n :: k :: below) h.fams f fun fa=>fN (Nat.mul 2 n) fun b=>fN (Nat.mul 2 len) fun c=>some (.slice (some ⟨b,0,none⟩) len c,⟨h.base,Nat.succ n,e,fa⟩)
theorem grownF_eq (h:IH) (k f:Nat) (cs:List Value) (t:Nat) (above below:List Nat) (cs':List Value) (t' len:Nat):grownF h k f cs t above below cs' t' len=some (.slice (some ⟨2*h.n,0,none⟩) len (2*len),grown h k f cs t above below cs' t'):=by
 unfold grownF
 rw[fN_eq,trPut_eq,trPut_eq,trPut_eq,fN_eq,fN_eq,killF_eq];rfl
def appG (h:IH) (size bytes n:Nat) (new:List Value) (s:Value):Option (Value×IH):=match s with
 | .slice none a c=>iB (Nat.beq a 0) (iB (Nat.beq c 0) (iB (Nat.ble (Nat.mul n (Nat.succ bytes)) sizeMost) (sliceNew h new size n (Nat.mul 2 n)) none) none) none
 | .slice (some ⟨b,o,none⟩) len k =>
  iB (Nat.ble (Nat.mul (Nat.add len n) (Nat.succ bytes)) sizeMost)
   (fN (Nat.add len n) fun m=>iB (Nat.ble m (Nat.div k 2)) (bO (wrF h b (Nat.add o (Nat.mul len size)) new) fun h=>some (.slice (some ⟨b,o,none⟩) m k,h))
    (iB (Nat.beq (Nat.mod k 2) 1) (bO (firstF h size len (.slice (some ⟨b,o,none⟩) len k)) fun old=>sliceNew h (appF old new) size m (Nat.mul 2 m))
     (iB (Nat.beq len (Nat.div k 2)) (iB (Nat.ble 1 len) (iB (Nat.beq (Nat.mod b 2) 0) (fN (Nat.div b 2) fun b2=>bO (trGet h.ext b2) fun ob=>match ob with
      | .cells cs t fam=>iB (Nat.beq (Nat.add o (Nat.mul len size)) (lenL cs)) (iB (Nat.beq t size) (match fam with
        | none=>grownF h b2 h.n cs t [] [] (appF (dropF o cs) new) size m
        | some f=>bO (trGet h.fams f) fun stk=>grownF h b2 f cs t (twF b2 stk) (dwF b2 stk) (appF (dropF o cs) new) size m) none) none
      | _=>none) none) none) none)))
   none
 | _=>none
def appendV (P:Program) (h:IH) (st:TypeId) (s x:Value):Option (Value×IH) :=
 bO (elemT P st) fun e=>bO (sizeT P e) fun size=>bO (bytesT P e) fun bytes=>bO (zeroCellsT P e) fun zs=>bO (lenOf x) fun n=>fN n fun n =>
  iB (Nat.beq n 0) (match s with|.slice none a c=>bif a == 0 && c == 0 then some (s,h) else none|.slice (some ⟨_,_,none⟩) _ _=>some (s,h)|_=>none)
   (iB (Nat.beq size 0) none (iB (Nat.ble bytes 65536) (iB (Nat.beq (lenL zs) size) (bO (firstF h size n x) fun new=>iB (allF cellF new) (appG h size bytes n new s) none) none) none))
theorem appG_eq (h:IH) (size bytes n:Nat) (new:List Value) (s:Value):appG h size bytes n new s=match s with
    | .slice none a c=>bif a == 0 && c == 0 && Nat.ble (n*(bytes+1)) sizeMost then some (.slice (some ⟨2*h.n,0,none⟩) n (2*n),h.new (.cells new size none)) else none
    | .slice (some ⟨b,o,none⟩) len k =>
     bif !(Nat.ble ((len+n)*(bytes+1)) sizeMost) then none else
     bif Nat.ble (len+n) (k / 2) then (h.wr b (o+len*size) new).map fun h=>(.slice (some ⟨b,o,none⟩) (len+n) k,h)
     else bif k % 2 == 1 then
      match firstOf h size len s with
      | none=>none
      | some old=>some (.slice (some ⟨2*h.n,0,none⟩) (len+n) (2*(len+n)),h.new (.cells (old ++ new) size none))
     else bif len == k / 2 && Nat.blt 0 len && b % 2 == 0 then
      match h.ext.get (b / 2) with
      | some (.cells cs t fam) =>
       bif o+len*size == cs.length && t == size then
        match fam with
        | none=>some (.slice (some ⟨2*h.n,0,none⟩) (len+n) (2*(len+n)),grown h (b / 2) h.n cs t [] [] (cs.drop o ++ new) size)
        | some f=>match h.fams.get f with
         | none=>none
         | some stk=>some (.slice (some ⟨2*h.n,0,none⟩) (len+n) (2*(len+n)),
           grown h (b / 2) f cs t (stk.takeWhile (· != b / 2)) ((stk.dropWhile (· != b / 2)).drop 1) (cs.drop o ++ new) size)
       else none
      | _=>none
     else none
    | _=>none:=by
 unfold appG
 split
 ·rename_i a c
  simp only[iB_eq,sliceNew_eq,beqN]
  show(bif Nat.beq a 0 then (bif Nat.beq c 0 then (bif Nat.ble (n*(bytes+1)) sizeMost then _ else none) else none) else none)=_
  cases Nat.beq a 0<;>cases Nat.beq c 0<;>cases Nat.ble (n*(bytes+1)) sizeMost<;>rfl
 ·rename_i b o len k
  simp only[iB_eq,fN_eq,sliceNew_eq,beqN,wrF_eq,firstF_eq,appF_eq,trGet_eq,lenL_eq,grownF_eq,dropF_eq,twF_eq,dwF_eq]
  show(bif Nat.ble ((len+n)*(bytes+1)) sizeMost then (bif Nat.ble (len+n) (k / 2) then (bO (h.wr b (o+len*size) new) fun h=>some (Value.slice (some ⟨b,o,none⟩) (len+n) k,h)) else (bif Nat.beq (k % 2) 1 then (bO (firstOf h size len (.slice (some ⟨b,o,none⟩) len k)) fun old=>some (Value.slice (some ⟨2*h.n,0,none⟩) (len+n) (2*(len+n)),h.new (.cells (old ++ new) size none))) else
   (bif Nat.beq len (k / 2) then (bif Nat.blt 0 len then (bif Nat.beq (b % 2) 0 then (bO (h.ext.get (b / 2)) fun ob=>match ob with
      | .cells cs t fam=>bif Nat.beq (o+len*size) cs.length then (bif Nat.beq t size then (match fam with
        | none=>some (Value.slice (some ⟨2*h.n,0,none⟩) (len+n) (2*(len+n)),grown h (b / 2) h.n cs t [] [] (cs.drop o ++ new) size)
        | some f=>bO (h.fams.get f) fun stk=>some (Value.slice (some ⟨2*h.n,0,none⟩) (len+n) (2*(len+n)),grown h (b / 2) f cs t (stk.takeWhile (· != b / 2)) ((stk.dropWhile (· != b / 2)).drop 1) (cs.drop o ++ new) size)) else none) else none
      | _=>none) else none) else none) else none))) else none)=_
  cases Nat.ble ((len+n)*(bytes+1)) sizeMost with
  | false=>rfl
  | true =>
   simp only[cond_true,Bool.not_true,cond_false]
   cases Nat.ble (len+n) (k / 2) with
   | true =>
    simp only[cond_true]
    cases h.wr b (o+len*size) new<;>rfl
   | false =>
    simp only[cond_false]
    cases Nat.beq (k % 2) 1 with
    | true =>
     simp only[cond_true]
     cases firstOf h size len (.slice (some ⟨b,o,none⟩) len k)<;>rfl
    | false =>
     simp only[cond_false]
     cases Nat.beq len (k / 2) with
     | false=>rfl
     | true =>
      cases Nat.blt 0 len with
      | false=>rfl
      | true =>
       cases Nat.beq (b % 2) 0 with
       | false=>rfl
       | true =>
        simp only[cond_true,Bool.and_true]
        cases h.ext.get (b / 2) with
        | none=>rfl
        | some ob =>
         cases ob with
         | cells cs t fam =>
          simp only[bO_some]
          cases Nat.beq (o+len*size) cs.length with
          | false=>rfl
          | true =>
           cases Nat.beq t size with
           | false=>rfl
           | true =>
            cases fam with
            | none=>rfl
            | some f =>
             simp only[cond_true,Bool.and_true]
             cases h.fams.get f<;>rfl
         | _=>rfl
 ·rfl
theorem appendV_eq (P:Program) (h:IH) (st:TypeId) (s x:Value):appendV P h st s x=append P h st s x:=by
 unfold appendV append elemT
 cases hu:P.underlying st with
 | none=>rfl
 | some d =>
  cases d with
  | slice e =>
   simp only[bO_some]
   cases sizeT P e with
   | none=>rfl
   | some size =>
    cases bytesT P e with
    | none=>rfl
    | some bytes =>
     cases zeroCellsT P e with
     | none=>rfl
     | some zs =>
      cases lenOf x with
      | none=>rfl
      | some n =>
       simp only[bO_some,fN_eq,iB_eq,beqN,lenL_eq,firstF_eq,allF_eq,cellF_eq,appG_eq]
       cases Nat.beq n 0 with
       | true=>rfl
       | false =>
        cases Nat.beq size 0 with
        | true=>rfl
        | false =>
         cases Nat.ble bytes 65536 with
         | false=>rfl
         | true =>
          cases Nat.beq zs.length size with
          | false=>rfl
          | true =>
           simp only[cond_true,cond_false,Bool.not_true,Bool.or_false]
           cases firstOf h size n x with
           | none=>rfl
           | some new =>
            simp only[bO_some]
            cases new.all cellOK<;>rfl
  | _=>rfl
def builtinF (P:Program) (h:IH) (b:Builtin) (ts:Array TypeId) (args:List Value):Option (Value×IH):=match b,args with
 | .append,[s,x]=>iB (isSliceT P ts[1]?) (bO ts[0]? fun st=>appendV P h st s x) none
 | b,args=>builtin P h b ts args
theorem builtinF_eq (P:Program) (h:IH) (b:Builtin) (ts:Array TypeId) (args:List Value):builtinF P h b ts args=builtin P h b ts args:=by
 unfold builtinF
 split
 ·rename_i s x
  rw[iB_eq]
  show _=bif isSliceT P ts[1]? then (match ts[0]? with|some st=>append P h st s x|none=>none) else none
  cases isSliceT P ts[1]? with
  | false=>rfl
  | true =>
   cases ts[0]? with
   | none=>rfl
   | some st=>exact appendV_eq P h st s x
 ·rfl
def callOpF (c:Call):OpSem:=fun E call fr h=>match c.callee with
 | .value f=>bO (opdF f fr) fun fv=>bO (opdsF c.args.toList fr) fun vs=>call fv vs h
 | .builtin b=>bO (opdsF c.args.toList fr) fun vs=>builtinF E.P h b c.argTypes vs
 | .invoke _ _=>none
def runF (o:Op):OpSem:=Op.rec (motive:=fun _=>OpSem) moveF moveF pickF allocF boxF buildF buildSliceF mapUpdateF loadOpF storeOpF (fun a=>restF (.ready a)) (fun a=>restF (.waits a)) nilCheckF binOpF unOpF convertF
 (fun a b=>restF (.sliceToArrayPointer a b)) (fun a b=>restF (.makeInterface a b)) makeFuncF (fun a b=>restF (.makeMap a b)) (fun a b=>restF (.makeChan a b)) makeSliceF sliceF fieldAddrF fieldF indexAddrF indexF lookupF mapUpdateF
 (fun a b c=>restF (.mapEntry a b c)) (fun a b c d=>restF (.entryStore a b c d)) (fun a b=>restF (.range a b)) (fun a b=>restF (.next a b)) (fun a=>restF (.entry a)) (fun a b c d=>restF (.typeAssert a b c d)) extractF callOpF
 (fun a=>restF (.go a)) (fun a=>restF (.defer a)) (fun a=>restF (.panic a)) (fun a b=>restF (.send a b)) (fun a b c=>restF (.recv a b c)) (fun a b=>restF (.select a b)) o
theorem runF_eq (o:Op) (E:Env) (call:CallV) (fr:Fr) (h:IH):runF o E call fr h=runOp E call fr o h:=by
 cases o
 case move x=>show okV h (opdF x fr)=_;rw[okV_eq,opdF_eq];rfl
 case assign x=>show okV h (opdF x fr)=_;rw[okV_eq,opdF_eq];rfl
 case pick c a b =>
  show bO (opdF c fr) _=match opd fr c with|some (.bool true)=>(opd fr a).map (·,h)|some (.bool false)=>(opd fr b).map (·,h)|_=>none
  simp only[opdF_eq,okV_eq]
  cases opd fr c with
  | none=>rfl
  | some v =>
   cases v with
   | bool t=>cases t<;>rfl
   | _=>rfl
 case alloc t =>
  show bO (zeroCellsT E.P t) _=(zeroCellsT E.P t).map _
  simp only[freshF_eq]
  cases zeroCellsT E.P t<;>rfl
 case box t x =>
  show bO (opdF x fr) _=(opd fr x).map _
  simp only[freshF_eq,cellsL_eq,opdF_eq]
  cases opd fr x<;>rfl
 case build t ps =>
  show bO (zeroCellsT E.P t) _=match zeroCellsT E.P t,partsOf fr ps.toList with|some z,some ps=>(bif allSized E.P t then (fillP (placeOf E.P t) z ps).map fun cs=>(Value.agg cs.toArray,h) else none)|_,_=>none
  simp only[partsF_eq,fillF_eq,iB_eq]
  cases zeroCellsT E.P t with
  | none=>rfl
  | some z =>
   cases partsOf fr ps.toList with
   | none=>rfl
   | some l =>
    simp only[bO_some]
    cases allSized E.P t with
    | false=>rfl
    | true =>
     simp only[cond_true]
     cases fillP (placeOf E.P t) z l<;>rfl
 case buildSlice t len ps =>
  show bO (partsF ps.toList fr) _=match partsOf fr ps.toList with|some ps=>buildSlice E.P h t len ps|none=>none
  simp only[partsF_eq,fillF_eq,sliceNew_eq,lenL_eq,iB_eq,replF_eq]
  cases partsOf fr ps.toList with
  | none=>rfl
  | some l =>
   simp only[bO_some]
   unfold buildSlice elemT
   cases E.P.underlying t with
   | none=>rfl
   | some d =>
    cases d with
    | slice e =>
     simp only[bO_some]
     cases sizeT E.P e with
     | none=>rfl
     | some n =>
      cases zeroCellsT E.P e with
      | none=>rfl
      | some z =>
       simp only[bO_some,beqN]
       show(bif Nat.ble (len*n) cellsMost then (bif Nat.beq z.length n then (bO (fillP (fun i=>some (i*n,n)) (repl len z) l) fun cells=>some (Value.slice (some ⟨2*h.n,0,none⟩) len (2*len+1),h.new (.cells cells n none))) else none) else none)=_
       cases Nat.ble (len*n) cellsMost<;>cases Nat.beq z.length n<;>first|rfl|skip
       simp only[cond_true,Bool.and_true]
       cases fillP (fun i=>some (i*n,n)) (repl len z) l<;>rfl
    | _=>rfl
 case load t a =>
  show bO (opdF a fr) _=match opd fr a with|some a=>(load E.P h t a).map (·,h)|none=>none
  simp only[opdF_eq,okV_eq,loadF_eq]
  cases opd fr a<;>rfl
 case store t a x =>
  show bO (opdF a fr) _=match opd fr a,opd fr x with|some a,some v=>(store E.P h t a v).map (undef,·)|_,_=>none
  simp only[opdF_eq,okH_eq,storeF_eq]
  cases opd fr a<;>cases opd fr x<;>rfl
 case nilCheck x =>
  show bO (opdF x fr) _=_
  rw[opdF_eq]
  simp only[runOp,iop]
  cases opd fr x with
  | none=>rfl
  | some v =>
   cases v with
   | pointer a=>cases a<;>rfl
   | func f a b=>cases f<;>rfl
   | _=>rfl
 case binOp op t x y s =>
  show bO (opdF x fr) _=match opd fr x,opd fr y with|some a,some b=>(binop E.P op t x y a b).map (·,h)|_,_=>none
  simp only[opdF_eq,okV_eq,binopF_eq]
  cases opd fr x<;>cases opd fr y<;>rfl
 case unOp op t x =>
  show bO (opdF x fr) _=match opd fr x with|some v=>(bif plain v then (pureVal E.P (Op.unary op v)).map (·,h) else none)|none=>none
  simp only[opdF_eq,okV_eq,unF_eq]
  cases opd fr x with
  | none=>rfl
  | some v =>
   simp only[bO_some]
   cases plain v<;>rfl
 case convert s d x =>
  show bO (opdF x fr) _=match opd fr x with|some v=>(bif plain v then (pureVal E.P (Go.convert s d v)).map (·,h) else none)|none=>none
  simp only[opdF_eq,okV_eq,convF_eq,convV]
  cases opd fr x with
  | none=>rfl
  | some v =>
   simp only[bO_some]
   cases plain v<;>rfl
 case makeFunc fn a b =>
  show bO (opdsF a.toList fr) _=match opds fr a.toList,opds fr b.toList with|some a,some b=>(match fn with|.func f=>some (Value.func (.func f) a.toArray b.toArray,h)|_=>none)|_,_=>none
  simp only[opdsF_eq]
  cases opds fr a.toList<;>cases opds fr b.toList<;>first|rfl|(cases fn<;>rfl)
 case makeSlice t l c =>
  show bO (opdF l fr) _=match opd fr l,opd fr c with|some l,some c=>makeSlice E.P h t l c|_,_=>none
  simp only[opdF_eq,makeSliceV_eq]
  cases opd fr l<;>cases opd fr c<;>rfl
 case slice t x lo hi mx =>
  show bO (opdF x fr) _=match opd fr x,optOpd fr lo,optOpd fr hi,optOpd fr mx with|some x,some lo,some hi,some mx=>(sliceOp E.P h t x lo hi mx).map (·,h)|_,_,_,_=>none
  simp only[opdF_eq,optF_eq,forceS_eq]
  cases opd fr x<;>cases optOpd fr lo<;>cases optOpd fr hi<;>cases optOpd fr mx<;>first|rfl|skip
  simp only[bO_some]
  rename_i x lo hi mx
  cases sliceOp E.P h t x lo hi mx<;>rfl
 case fieldAddr t x f =>
  show bO (opdF x fr) _=match opd fr x,fieldOf E.P t f with|some x,some f=>(match asAddr x,sizeT E.P f.type with|some (b,o),some n=>(bif n == 0 then none else some (ptr b (o+f.offset),h))|_,_=>none)|_,_=>none
  simp only[opdF_eq,addrOf_eq,iB_eq,fN_eq,beqN]
  cases opd fr x with
  | none=>rfl
  | some v =>
   cases fieldOf E.P t f with
   | none=>rfl
   | some fd =>
    simp only[bO_some]
    cases sizeT E.P fd.type with
    | none=>cases asAddr v<;>rfl
    | some n =>
     cases asAddr v with
     | none=>rfl
     | some a=>rfl
 case field t x f =>
  show bO (opdF x fr) _=_
  simp only[opdF_eq,okV_eq,partF_eq,runOp,iop]
  cases opd fr x with
  | none=>rfl
  | some v =>
   cases fieldOf E.P t f with
   | none=>cases v<;>rfl
   | some fd=>cases v<;>rfl
 case indexAddr t x i =>
  show bO (opdF x fr) _=match opd fr x,opd fr i with|some x,some i=>(indexAddr E.P t x i).map (·,h)|_,_=>none
  simp only[opdF_eq,okV_eq,indexAddrV_eq]
  cases opd fr x<;>cases opd fr i<;>rfl
 case index t x i =>
  show bO (opdF x fr) _=_
  simp only[opdF_eq,runOp,iop,indexVF,okV_eq]
  cases opd fr x with
  | none=>rfl
  | some v =>
   cases opd fr i with
   | none=>cases v<;>rfl
   | some j =>
    cases v with
    | agg cs =>
     simp only[bO_some]
     split
     ·rename_i hu hj
      rw[hu,hj]
      simp only
      split
      ·rename_i hs;rw[hs,partF_eq];rfl
      ·rename_i hs;rw[hs]
     ·rename_i hn
      split
      ·rename_i hu hj;exact absurd hj (hn _ _ _ hu)
      ·rfl
    | _=>rfl
 case lookup t m k ok =>
  show bO (opdF m fr) _=match opd fr m,opd fr k with|some m,some k=>(lookup E.P h t m k ok).map (·,h)|_,_=>none
  simp only[opdF_eq,okV_eq]
  cases opd fr m<;>cases opd fr k<;>rfl
 case mapUpdate t m k v =>
  show bO (opdF m fr) _=match opd fr m,opd fr k,opd fr v with|some m,some k,some v=>(mapUpdate E.P h t m k v).map (undef,·)|_,_,_=>none
  simp only[opdF_eq,okH_eq]
  cases opd fr m<;>cases opd fr k<;>cases opd fr v<;>rfl
 case insert t m k v =>
  show bO (opdF m fr) _=match opd fr m,opd fr k,opd fr v with|some m,some k,some v=>(mapUpdate E.P h t m k v).map (undef,·)|_,_,_=>none
  simp only[opdF_eq,okH_eq]
  cases opd fr m<;>cases opd fr k<;>cases opd fr v<;>rfl
 case extract x i =>
  show bO (opdF x fr) _=_
  simp only[opdF_eq,okV_eq,nthF_eq,runOp,iop]
  cases opd fr x with
  | none=>rfl
  | some v =>
   cases v with
   | tuple vs=>simp only[bO_some,Array.getElem?_toList]
   | _=>rfl
 case call c =>
  show callOpF c E call fr h=_
  unfold callOpF
  simp only[opdF_eq,opdsF_eq,builtinF_eq,runOp,iop]
  cases c.callee with
  | value f=>simp only;cases opd fr f<;>cases opds fr c.args.toList<;>rfl
  | builtin b=>simp only;cases opds fr c.args.toList<;>rfl
  | invoke _ _=>rfl
 all_goals rfl
end
end Go.Id

namespace Go.Id
open Go
noncomputable section
def wantF (ops:List Oper) (g:Nat×Bool) (fr:Fr):Option Bool:=bO ((ops[g.1]?).bind (·.dst)) fun d=>bO (fgetF fr d) fun v=>match v with
 | .bool b=>some (b == g.2)
 | .tuple _=>some false
 | _=>none
theorem wantF_eq (ops:List Oper) (o:Oper) (j:Nat) (w:Bool) (fr:Fr) (hg:o.guard=some (j,w)):wantF ops (j,w) fr=wantedI ops o fr:=by
 unfold wantF wantedI
 rw[hg]
 simp only[fgetF_eq]
 cases(ops[j]?).bind (·.dst) with
 | none=>rfl
 | some d =>
  simp only[bO_some]
  cases fget fr d with
  | none=>rfl
  | some v=>cases v<;>rfl
def stepG (E:Env) (call:CallV) (nt:Nat) (o:Oper) (fr:Fr) (h:IH):Option (Fr×IH):=bO (runF o.op E call fr h) (Prod.rec fun v h=>bO (putF nt fr o.dst v) fun fr=>some (fr,h))
def stepF (E:Env) (call:CallV) (nt:Nat) (ops:List Oper) (o:Oper) (fr:Fr) (h:IH):Option (Fr×IH) :=
 Option.rec (motive:=fun _=>Option (Fr×IH)) (stepG E call nt o fr h) (fun g=>bO (wantF ops g fr) fun w=>iB w (stepG E call nt o fr h) (bO (putF nt fr o.dst undef) fun fr=>some (fr,h))) o.guard
theorem stepG_eq (E:Env) (call:CallV) (nt:Nat) (o:Oper) (fr:Fr) (h:IH):stepG E call nt o fr h=match runOp E call fr o.op h with
  | some (v,h)=>(fput nt fr o.dst v).map (·,h)
  | none=>none:=by
 unfold stepG
 rw[runF_eq]
 cases runOp E call fr o.op h with
 | none=>rfl
 | some p =>
  obtain⟨v,h⟩:=p
  simp only[bO_some,putF_eq]
  cases fput nt fr o.dst v<;>rfl
theorem stepF_eq (E:Env) (call:CallV) (nt:Nat) (ops:List Oper) (o:Oper) (fr:Fr) (h:IH):stepF E call nt ops o fr h=stepOp E call nt ops o fr h:=by
 unfold stepF stepOp
 cases hg:o.guard with
 | none =>
  rw[show wantedI ops o fr=some true from by unfold wantedI;rw[hg]]
  exact stepG_eq E call nt o fr h
 | some g =>
  obtain⟨j,w⟩:=g
  simp only
  rw[wantF_eq ops o j w fr hg]
  cases wantedI ops o fr with
  | none=>rfl
  | some b =>
   cases b with
   | true=>exact stepG_eq E call nt o fr h
   | false =>
    simp only[bO_some,iB_false,putF_eq]
    cases fput nt fr o.dst undef<;>rfl
def runOpsF (E:Env) (call:CallV) (nt:Nat) (ops l:List Oper) (fr:Fr) (h:IH):Option (Fr×IH):=List.rec (motive:=fun _=>Fr→IH→Option (Fr×IH)) (fun fr h=>some (fr,h)) (fun o _ ih fr h=>bO (stepF E call nt ops o fr h) (Prod.rec ih)) l fr h
theorem runOpsF_eq (E:Env) (call:CallV) (nt:Nat) (ops:List Oper) : ∀(l:List Oper) (fr:Fr) (h:IH),runOpsF E call nt ops l fr h=runOps E call nt ops l fr h
 | [],_,_=>rfl
 | o :: l,fr,h=>by
  show bO (stepF E call nt ops o fr h) (Prod.rec (runOpsF E call nt ops l))=_
  rw[stepF_eq,runOps]
  cases stepOp E call nt ops o fr h with
  | none=>rfl
  | some p=>exact runOpsF_eq E call nt ops l p.1 p.2
def traceF (E:Env) (call:CallV) (nt:Nat) (ops l:List Oper) (fr:Fr) (h:IH):Option (List (Fr×IH)):=List.rec (motive:=fun _=>Fr→IH→Option (List (Fr×IH))) (fun fr h=>some [(fr,h)]) (fun o _ ih fr h=>bO (stepF E call nt ops o fr h) (Prod.rec fun fr' h'=>bO (ih fr' h') fun l=>some ((fr,h) :: l))) l fr h
theorem traceF_eq (E:Env) (call:CallV) (nt:Nat) (ops:List Oper) : ∀(l:List Oper) (fr:Fr) (h:IH),traceF E call nt ops l fr h=trace E call nt ops l fr h
 | [],_,_=>rfl
 | o :: l,fr,h=>by
  show bO (stepF E call nt ops o fr h) (Prod.rec fun fr' h'=>bO (traceF E call nt ops l fr' h') fun l=>some ((fr,h) :: l))=_
  rw[stepF_eq,trace]
  cases stepOp E call nt ops o fr h with
  | none=>rfl
  | some p =>
   obtain⟨fr',h'⟩:=p
   simp only[bO_some,traceF_eq E call nt ops l]
   cases trace E call nt ops l fr' h'<;>rfl
def iopF (E:Env) (fr:Fr) (o:Op) (h:IH):Option (Value×IH):=runF o E (fun _ _ _=>none) fr h
theorem iopF_eq (E:Env) (fr:Fr) (o:Op) (h:IH):iopF E fr o h=iop E.P fr o h:=by
 unfold iopF
 rw[runF_eq]
 cases o<;>try rfl
 rename_i c
 simp only[runOp,iop]
 cases c.callee with
 | value f=>simp only;cases opd fr f<;>cases opds fr c.args.toList<;>rfl
 | _=>rfl
def steadyAtF (E:Env) (fr:Fr) (o:Op) (h h':IH):Bool :=
 match iopF E fr o h,iopF E fr o h' with
 | some (v,_),some (v',_)=>eqV v v'
 | _,_=>false
def wantI (ops:List Oper) (o:Oper) (fr:Fr):Option Bool:=Option.rec (motive:=fun _=>Option Bool) (some true) (fun g=>wantF ops g fr) o.guard
theorem wantI_eq (ops:List Oper) (o:Oper) (fr:Fr):wantI ops o fr=wantedI ops o fr:=by
 unfold wantI
 cases hg:o.guard with
 | none=>unfold wantedI;rw[hg]
 | some g=>exact wantF_eq ops o g.1 g.2 fr hg
def steadyF (E:Env) (ops:List Oper) (tr:List (Fr×IH)) (pl:List (Nat×List Nat)):Bool :=
 pl.all fun e=>match ops[e.1]?,tr[e.1]? with
  | some o,some (fr,h)=>match wantI ops o fr with
   | some true=>e.2.all fun p=>match tr[p]? with
    | some (_,h')=>steadyAtF E fr o.op h h'
    | none=>false
   | _=>true
  | _,_=>false
theorem steadyF_eq (E:Env) (ops:List Oper) (tr:List (Fr×IH)) (pl:List (Nat×List Nat)):steadyF E ops tr pl=steady E.P ops tr pl:=by
 have e:steadyAtF E=steadyAt E.P:=by
  funext fr o h h'
  unfold steadyAtF steadyAt
  rw[iopF_eq,iopF_eq];rfl
 have e2:wantI=wantedI:=by funext ops o fr;exact wantI_eq ops o fr
 unfold steadyF steady
 rw[e,e2];rfl
def planOf (ops:List Oper):Option (List (Nat×List Nat)):=bif orderOK ops then some (plan ops) else none
def drawnF (E:Env) (call:CallV) (nt:Nat) (ops:List Oper) (fr:Fr) (h:IH):Option (Fr×IH):=bO (planOf ops) (List.rec (motive:=fun _=>Option (Fr×IH)) (runOpsF E call nt ops ops fr h) (fun a l _=>bO (traceF E call nt ops ops fr h) fun tr=>iB (steadyF E ops tr (a :: l)) tr[ops.length]? none))
theorem trace_last (E:Env) (call:CallV) (nt:Nat) (ops:List Oper) : ∀(l:List Oper) (fr:Fr) (h:IH),(match trace E call nt ops l fr h with|none=>none|some tr=>tr[l.length]?)=runOps E call nt ops l fr h
 | [],_,_=>rfl
 | o :: l,fr,h=>by
  rw[trace,runOps]
  cases stepOp E call nt ops o fr h with
  | none=>rfl
  | some p =>
   obtain⟨fr',h'⟩:=p
   simp only
   rw[←trace_last E call nt ops l fr' h']
   cases trace E call nt ops l fr' h'<;>rfl
theorem drawnF_eq (E:Env) (call:CallV) (nt:Nat) (ops:List Oper) (fr:Fr) (h:IH):drawnF E call nt ops fr h=runDrawn E call nt ops fr h:=by
 unfold drawnF runDrawn planOf
 cases ho:orderOK ops with
 | false=>cases trace E call nt ops ops fr h<;>rfl
 | true =>
  simp only[cond_true,bO_some,Bool.true_and]
  cases hp:plan ops with
  | nil =>
   show runOpsF E call nt ops ops fr h=_
   rw[runOpsF_eq,←trace_last]
   cases trace E call nt ops ops fr h<;>rfl
  | cons a l =>
   show bO (traceF E call nt ops ops fr h) _=_
   simp only[traceF_eq,steadyF_eq,iB_eq]
   cases trace E call nt ops ops fr h<;>rfl
abbrev Sm:=Fr→IH→Out
def skipC:Sm:=fun fr h=>some (.normal,fr,h)
def exitC (i:Nat):Sm:=fun fr h=>some (.exit i,fr,h)
def retC:Sm:=fun fr h=>some (.ret,fr,h)
def noC:Sm:=fun _ _=>none
def afterC (k:Sm) (p:IExit×Fr×IH):Out:=Prod.rec (fun e q=>IExit.rec (motive:=fun _=>Out) (Prod.rec (fun fr h=>k fr h) q) (fun i=>some (.exit i,q)) (some (.ret,q)) e) p
def seqC (a b:Sm):Sm:=fun fr h=>bO (a fr h) (afterC b)
def condC (c:Operand) (a b:Sm):Sm:=fun fr h=>bO (opdF c fr) fun v=>match v with
 | .bool t=>iB t a b fr h
 | _=>none
def blockC (id:Nat) (b:Sm):Sm:=fun fr h=>bO (b fr h) (Prod.rec fun e q=>IExit.rec (motive:=fun _=>Out) (some (.normal,q)) (fun i=>iB (Nat.beq i id) (some (.normal,q)) (some (.exit i,q))) (some (.ret,q)) e)
def loopNF (b:Sm) (n:Nat):Sm:=Nat.rec (motive:=fun _=>Sm) noC (fun _ ih fr h=>bO (b fr h) (afterC ih)) n
theorem afterC_eq (k:Sm) (o:Out):bO o (afterC k)=match o with
  | some (.normal,fr,h)=>k fr h
  | some (.exit i,fr,h)=>some (.exit i,fr,h)
  | some (.ret,fr,h)=>some (.ret,fr,h)
  | none=>none:=by
 cases o with
 | none=>rfl
 | some p =>
  obtain⟨e,fr,h⟩:=p
  cases e<;>rfl
theorem loopNF_eq (b:Sm) : ∀n,loopNF b n=loopN b n
 | 0=>by funext fr h;rfl
 | n+1=>by
  funext fr h
  show bO (b fr h) (afterC (loopNF b n))=_
  rw[afterC_eq,loopNF_eq b n];rfl
def mapHead (b:Code):Bool:=match b with
 | .seq (.region _ ops draw) _=>(nextOf ops.toList draw).isSome
 | _=>false
def loopC (E:Env) (call:CallV) (fn:FuncId) (nt:Nat) (rd:Option Nat) (n:Nat) (b:Code) (ih:Sm):Sm:=iB (mapHead b) (evC E call fn nt rd n (.loop b)) (loopNF ih n)
def headF (E:Env) (fn:FuncId) (id:Nat) (fr:Fr):Fr:=Option.rec (motive:=fun _=>Fr) fr (fun l=>keepOnly fr l) (E.lv fn id)
theorem headF_eq (E:Env) (fn:FuncId) (id:Nat) (fr:Fr):headF E fn id fr=headFr E fn id fr:=by
 unfold headF headFr
 cases E.lv fn id<;>rfl
def regionC (E:Env) (call:CallV) (fn:FuncId) (nt:Nat) (id:Nat) (ops:Array Oper) (draw:Bool):Sm:=fun fr h=>bO (iB draw (drawnF E call nt ops.toList (headF E fn id fr) h) (runOpsF E call nt ops.toList ops.toList (headF E fn id fr) h)) fun q=>some (.normal,q)
def loopOfF (h:IH) (k:Nat):Option ILoop:=bO (trGet h.ext k) fun o=>match o with
 | .loop r=>some r
 | _=>none
theorem loopOfF_eq (h:IH) (k:Nat):loopOfF h k=loopOf h k:=by
 unfold loopOfF loopOf
 rw[trGet_eq]
 cases h.ext.get k with
 | none=>rfl
 | some o=>cases o<;>rfl
def roundF (h:IH) (rd:Option Nat):Bool:=Option.rec (motive:=fun _=>Bool) true (fun l=>(loopOfF h l).isSome) rd
theorem roundF_eq (h:IH) (rd:Option Nat):roundF h rd=roundOK h rd:=by
 cases rd with
 | none=>rfl
 | some l =>
  show(loopOfF h l).isSome=(loopOf h l).isSome
  rw[loopOfF_eq]
def rangeC (E:Env) (call:CallV) (fn:FuncId) (nt:Nat) (rd:Option Nat) (f:Operand) (params:Array Tmp) (assign body:Code):Sm:=fun fr h =>
 iB (roundF h rd) (bO (opdF f fr) fun fv=>newF h (.loop { state:=.ready,pending:=none,fn,nt,fr,params:=params.toList,assign,body }) fun k h0=>fN (Nat.mul 2 k) fun k2 =>
  bO (call fv [.func (.yield k2) #[] #[]] h0) (Prod.rec fun _ h1=>bO (loopOfF h1 k) fun r=>iB (r.state == .busy) none (bO (exitOf r.pending) fun e=>setF h1 k .dead fun h=>some (e,fr,h)))) none
theorem rangeC_eq (E:Env) (call:CallV) (fn:FuncId) (nt:Nat) (rd:Option Nat) (f:Operand) (params:Array Tmp) (assign body:Code) (fr:Fr) (h:IH):rangeC E call fn nt rd f params assign body fr h=rangeFn E call fn nt rd f params.toList assign body fr h:=by
 unfold rangeC rangeFn
 simp only[newF_eq,fN_eq,roundF_eq,loopOfF_eq,opdF_eq,setF_eq,iB_eq]
 cases roundOK h rd with
 | false=>rfl
 | true =>
  simp only[cond_true]
  cases opd fr f with
  | none=>rfl
  | some fv =>
   simp only[bO_some]
   show bO (call fv [.func (.yield (2*h.n)) #[] #[]] _) _=_
   cases call fv [.func (.yield (2*h.n)) #[] #[]] (h.new (.loop { state:=.ready,pending:=none,fn,nt,fr,params:=params.toList,assign,body })) with
   | none=>rfl
   | some p =>
    obtain⟨v,h1⟩:=p
    simp only[bO_some]
    cases loopOf h1 h.n with
    | none=>rfl
    | some r =>
     simp only[bO_some]
     cases r.state == .busy with
     | true=>rfl
     | false =>
      simp only[cond_false]
      cases exitOf r.pending<;>rfl
def evF (E:Env) (call:CallV) (fn:FuncId) (nt:Nat) (rd:Option Nat) (n:Nat) (c:Code):Sm:=Code.rec (motive:=fun _=>Sm) skipC (fun id ops draw=>regionC E call fn nt id ops draw) (fun _ _ a b=>seqC a b) (fun c _ _ a b=>condC c a b) (fun id _ b=>blockC id b) (fun b ih=>loopC E call fn nt rd n b ih)
 (fun f ps a b _ _=>rangeC E call fn nt rd f ps a b) exitC (fun _ b=>b) (fun _=>skipC) (fun _=>noC) retC (fun _=>noC) c
theorem evF_eq (E:Env) (call:CallV) (fn:FuncId) (nt:Nat) (rd:Option Nat) (n:Nat) : ∀(c:Code),evF E call fn nt rd n c=evC E call fn nt rd n c
 | .skip=>by funext fr h;rw[evC];rfl
 | .label _=>by funext fr h;rw[evC];rfl
 | .region id ops draw=>by
  funext fr h
  show bO (iB draw (drawnF E call nt ops.toList (headF E fn id fr) h) (runOpsF E call nt ops.toList ops.toList (headF E fn id fr) h)) _=_
  rw[evC,iB_eq,drawnF_eq,runOpsF_eq,headF_eq]
  cases(bif draw then runDrawn E call nt ops.toList (headFr E fn id fr) h else runOps E call nt ops.toList ops.toList (headFr E fn id fr) h)<;>rfl
 | .seq a b=>by
  funext fr h
  show bO (evF E call fn nt rd n a fr h) (afterC (evF E call fn nt rd n b))=_
  rw[evF_eq E call fn nt rd n a,evF_eq E call fn nt rd n b,afterC_eq,evC]
  cases evC E call fn nt rd n a fr h with
  | none=>rfl
  | some p=>rfl
 | .cond c a b=>by
  funext fr h
  show bO (opdF c fr) _=_
  simp only[evC,opdF_eq]
  show(bO (opd fr c) fun v=>match v with|.bool t=>iB t (evF E call fn nt rd n a) (evF E call fn nt rd n b) fr h|_=>none)=_
  rw[evF_eq E call fn nt rd n a,evF_eq E call fn nt rd n b]
  cases opd fr c with
  | none=>rfl
  | some v =>
   cases v with
   | bool t=>cases t<;>rfl
   | _=>rfl
 | .block id b=>by
  funext fr h
  show blockC id (evF E call fn nt rd n b) fr h=_
  rw[evF_eq E call fn nt rd n b,evC]
  unfold blockC
  cases evC E call fn nt rd n b fr h with
  | none=>rfl
  | some p =>
   obtain⟨e,fr,h⟩:=p
   cases e with
   | exit i =>
    show iB (Nat.beq i id) _ _=_
    rw[iB_eq]
    simp only[beqN]
   | _=>rfl
 | .loop b=>by
  funext fr h
  show loopC E call fn nt rd n b (evF E call fn nt rd n b) fr h=_
  rw[evF_eq E call fn nt rd n b]
  unfold loopC
  cases hm:mapHead b with
  | true=>rfl
  | false =>
   rw[iB_false,loopNF_eq]
   cases b with
   | seq a rest =>
    cases a with
    | region id ops draw =>
     rw[evC]
     have hn:nextOf ops.toList draw=none:=by
      cases ho:nextOf ops.toList draw with
      | none=>rfl
      | some x=>rw[mapHead,ho] at hm;cases hm
     rw[hn]
    | _=>rw[evC];intro _ _ _ _ h;cases h
   | _=>rw[evC];intro _ _ _ _ h;cases h
 | .scope b=>by
  show evF E call fn nt rd n b=_
  rw[evF_eq E call fn nt rd n b]
  funext fr h;rw[evC]
 | .rangeFunc f ps a b=>by
  funext fr h
  rw[evC];exact rangeC_eq E call fn nt rd f ps a b fr h
 | .exit i=>by funext fr h;rw[evC];rfl
 | .ret=>by funext fr h;rw[evC];rfl
 | .goto _=>by funext fr h;rw[evC];rfl
 | .refuse _=>by funext fr h;rw[evC];rfl
def resultF (P:Program) (fr:Fr) (h:IH) (r:ResultVar):Option Value:=match r with
 | .tmp t=>fgetF fr t
 | .cell a t=>bO (fgetF fr a) fun v=>loadF P h t v
def resultsF (P:Program) (fr:Fr) (h:IH) (l:List ResultVar):Option (List Value):=List.rec (motive:=fun _=>Option (List Value)) (some []) (fun r _ ih=>bO (resultF P fr h r) fun v=>bO ih fun vs=>some (v :: vs)) l
theorem resultsF_eq (P:Program) (fr:Fr) (h:IH) : ∀l,resultsF P fr h l=resultsOf P fr h l
 | []=>rfl
 | r :: l=>by
  show bO (resultF P fr h r) (fun v=>bO (resultsF P fr h l) fun vs=>some (v :: vs))=_
  rw[resultsF_eq P fr h l,resultsOf,show resultF P fr h r=resultOf P fr h r from ?_]
  ·cases resultOf P fr h r<;>cases resultsOf P fr h l<;>rfl
  ·cases r with
   | tmp t=>exact fgetF_eq fr t
   | cell a t =>
    show bO (fgetF fr a) _=_
    rw[fgetF_eq]
    simp only[resultOf,loadF_eq]
    cases fget fr a<;>rfl
def enterF (l:List Value):Fr:=List.rec (motive:=fun _=>Nat→Fr) (fun _ => []) (fun v _ ih i=>(i,v) :: ih (Nat.succ i)) l 0
theorem enterF_go : ∀(l:List Value) (i:Nat),List.rec (motive:=fun _=>Nat→Fr) (fun _ => []) (fun v _ ih i=>(i,v) :: ih (Nat.succ i)) l i=enterFr i l
 | [],_=>rfl
 | v :: l,i=>congrArg ((i,v) :: ·) (enterF_go l (i+1))
theorem enterF_eq (l:List Value):enterF l=enterFr 0 l:=enterF_go l 0
def bodyF (E:Env) (call:CallV) (n:Nat) (f:FuncId) (fn:Func) (args:List Value) (h:IH) (c:Code):Option (Value×IH) :=
 iB (Nat.ble (lenL args) fn.ntmps) (bO (evF E call f fn.ntmps none n c (enterF args) h) (Prod.rec fun e q=>IExit.rec (motive:=fun _=>Option (Value×IH))
  (Prod.rec (fun fr h=>bO (resultsF E.P fr h fn.results.toList) fun vs=>some (single vs,h)) q) (fun _=>none) (Prod.rec (fun fr h=>bO (resultsF E.P fr h fn.results.toList) fun vs=>some (single vs,h)) q) e)) none
def callFnF (E:Env) (call:CallV) (n:Nat) (f:FuncId) (args:List Value) (h:IH):Option (Value×IH):=Option.rec (motive:=fun _=>Option (Value×IH))
 (bO E.P.funcs[f]? fun fn=>Option.rec (motive:=fun _=>Option (Value×IH)) (okV h (carryI fn.name args)) (bodyF E call n f fn args h) fn.body) (fun g=>g args h) (E.intr f)
theorem callFnF_eq (E:Env) (call:CallV) (n:Nat) (f:FuncId) (args:List Value) (h:IH):callFnF E call n f args h=callFn E call n f args h:=by
 unfold callFnF callFn
 cases E.intr f with
 | some g=>rfl
 | none =>
  cases E.P.funcs[f]? with
  | none=>rfl
  | some fn =>
   simp only[bO_some]
   cases fn.body with
   | none=>exact okV_eq _ _
   | some c =>
    show bodyF E call n f fn args h c=bif Nat.ble args.length fn.ntmps then _ else none
    unfold bodyF
    rw[lenL_eq,iB_eq,evF_eq,enterF_eq]
    simp only[resultsF_eq]
    cases Nat.ble args.length fn.ntmps with
    | false=>rfl
    | true =>
     simp only[cond_true]
     cases evC E call f fn.ntmps none n c (enterFr 0 args) h with
     | none=>rfl
     | some p =>
      obtain⟨e,fr,h⟩:=p
      cases e with
      | exit i=>rfl
      | normal =>
       show bO (resultsOf E.P fr h fn.results.toList) _=(resultsOf E.P fr h fn.results.toList).map _
       cases resultsOf E.P fr h fn.results.toList<;>rfl
      | ret =>
       show bO (resultsOf E.P fr h fn.results.toList) _=(resultsOf E.P fr h fn.results.toList).map _
       cases resultsOf E.P fr h fn.results.toList<;>rfl
def paramsF (nt:Nat) (l:List Nat) (vs:List Value) (fr:Fr):Option Fr:=List.rec (motive:=fun _=>List Value→Fr→Option Fr) (fun vs fr=>List.rec (motive:=fun _=>Option Fr) (some fr) (fun _ _ _=>none) vs) (fun t _ ih vs fr=>List.rec (motive:=fun _=>Option Fr) none (fun v vs _=>bO (putF nt fr (some t) v) (ih vs)) vs) l vs fr
theorem paramsF_eq (nt:Nat) : ∀(l:List Nat) (vs:List Value) (fr:Fr),paramsF nt l vs fr=putParams nt l vs fr
 | [],[],_=>rfl
 | [],_ :: _,_=>rfl
 | _ :: _,[],_=>rfl
 | t :: l,v :: vs,fr=>by
  show bO (putF nt fr (some t) v) (paramsF nt l vs)=_
  rw[putF_eq,putParams]
  cases fput nt fr (some t) v with
  | none=>rfl
  | some fr=>exact paramsF_eq nt l vs fr
def yieldF (E:Env) (call:CallV) (n:Nat) (l:Nat) (args:List Value) (h:IH):Option (Value×IH) :=
 bO (loopOfF h l) fun r=>bO (paramsF r.nt r.params args r.fr) fun fr=>bO (evF E call r.fn r.nt (some l) n r.assign fr h) (Prod.rec fun e q=>IExit.rec (motive:=fun _=>Option (Value×IH)) (Prod.rec (fun fr h=>bO (loopOfF h l) fun r1=>iB (r1.state == .ready)
  (setF h l (.loop { r1 with state:=.busy }) fun h=>bO (evF E call r.fn r.nt (some l) n r.body fr h) (Prod.rec fun e q=>Prod.rec (fun _ h=>bO (loopOfF h l) fun r2=>IExit.rec (motive:=fun _=>Option (Value×IH))
   (setF h l (.loop { r2 with state:=.ready,pending:=none }) fun h=>some (.bool true,h))
   (fun i=>setF h l (.loop { r2 with state:=.done,pending:=some (.exit i) }) fun h=>some (.bool false,h))
   (setF h l (.loop { r2 with state:=.done,pending:=some .ret }) fun h=>some (.bool false,h)) e) q)) none) q) (fun _=>none) none e)
theorem yieldF_eq (E:Env) (call:CallV) (n:Nat) (l:Nat) (args:List Value) (h:IH):yieldF E call n l args h=callYield E call n l args h:=by
 unfold yieldF callYield
 simp only[loopOfF_eq,paramsF_eq,evF_eq,setF_eq,iB_eq]
 cases loopOf h l with
 | none=>rfl
 | some r =>
  simp only[bO_some]
  cases putParams r.nt r.params args r.fr with
  | none=>rfl
  | some fr =>
   simp only[bO_some]
   cases evC E call r.fn r.nt (some l) n r.assign fr h with
   | none=>rfl
   | some p =>
    obtain⟨e,fr,h⟩:=p
    cases e with
    | exit i=>rfl
    | ret=>rfl
    | normal =>
     simp only[bO_some]
     cases loopOf h l with
     | none=>rfl
     | some r1 =>
      simp only[bO_some]
      cases r1.state == .ready with
      | false=>rfl
      | true =>
       simp only[cond_true]
       cases evC E call r.fn r.nt (some l) n r.body fr { h with ext:=h.ext.set l (.loop { r1 with state:=.busy }) } with
       | none=>rfl
       | some p =>
        obtain⟨e,fr,h⟩:=p
        simp only[bO_some]
        cases loopOf h l with
        | none=>rfl
        | some r2=>cases e<;>rfl
def callF (E:Env) (n:Nat):CallV:=Nat.rec (motive:=fun _=>CallV) (fun _ _ _=>none) (fun n ih fv vs h=>match fv with
 | .func (.func f) first cap=>callFnF E ih n f (appF first.toList (appF vs cap.toList)) h
 | .func (.yield l) first _=>iB (Nat.beq (Nat.mod l 2) 0) (yieldF E ih n (Nat.div l 2) (appF first.toList vs) h) none
 | _=>none) n
theorem callF_eq (E:Env) : ∀n,callF E n=callV E n
 | 0=>rfl
 | n+1=>by
  funext fv vs h
  show(match fv with
   | .func (.func f) first cap=>callFnF E (callF E n) n f (appF first.toList (appF vs cap.toList)) h
   | .func (.yield l) first _=>iB (Nat.beq (Nat.mod l 2) 0) (yieldF E (callF E n) n (Nat.div l 2) (appF first.toList vs) h) none
   | _=>none)=match fv with
   | .func (.func f) first cap=>callFn E (callV E n) n f (first.toList ++ (vs ++ cap.toList)) h
   | .func (.yield l) first _=>bif l % 2 == 0 then callYield E (callV E n) n (l / 2) (first.toList ++ vs) h else none
   | _=>none
  rw[callF_eq E n]
  simp only[callFnF_eq,yieldF_eq,appF_eq,iB_eq,beqN];rfl
def boolF (E:Env) (n:Nat) (f:FuncId) (base:Nat→Option (List Value)):Bool:=Option.rec (motive:=fun _=>Bool) false (fun p=>match p.1 with|.bool b=>b|_=>false) (callF E n (.func (.func f) #[] #[]) [] (IH.start base))
theorem boolF_true {E:Env} {n:Nat} {f:FuncId} {base:Nat→Option (List Value)} (h:boolF E n f base=true) : ∃h',callV E n (.func (.func f) #[] #[]) [] (IH.start base)=some (.bool true,h'):=by
 unfold boolF at h
 rw[callF_eq] at h
 cases hc:callV E n (.func (.func f) #[] #[]) [] (IH.start base) with
 | none=>rw[hc] at h;cases h
 | some p =>
  obtain⟨v,h'⟩:=p
  rw[hc] at h
  cases v with
  | bool b =>
   cases b with
   | true=>exact⟨h',rfl⟩
   | false=>cases h
  | _=>cases h
end
end Go.Id

namespace Go.Id
open Go
noncomputable section
def w64:Nat:=18446744073709551616
def w512:Nat:=13407807929942597099574024998205846127479365820592393377723561443721764030073546976801874298166903427690031858186486050853753882811946569946433649006084096
def h512:Nat:=6703903964971298549787012499102923063739682910296196688861780721860882015036773488400937149083451713845015929093243025426876941405973284973216824503042048
def wordC (v:Value) (ih:Option Nat):Option Nat:=match v with
 | .int .u64 (.ofNat w)=>iB (Nat.ble (Nat.succ w) w64) (bO ih fun r=>some (Nat.add w (Nat.mul w64 r))) none
 | _=>none
def wordsF (l:List Value):Option Nat:=List.rec (motive:=fun _=>Option Nat) (some 0) (fun v _ ih=>wordC v ih) l
def sgnF (n:Nat):Int:=iB (Nat.ble (Nat.succ n) h512) (Int.ofNat n) (Int.negSucc (Nat.sub (Nat.sub w512 n) 1))
def wordF (z:Int):Nat:=Int.rec (motive:=fun _=>Nat) (fun n=>n) (fun n=>Nat.sub w512 (Nat.succ n)) z
def wordsL (k x:Nat) (tl:List Value):List Value:=Nat.rec (motive:=fun _=>Nat→List Value) (fun _=>tl) (fun _ ih x=>fN (Nat.mod x w64) fun w=>.int .u64 (.ofNat w) :: ih (Nat.div x w64)) k x
def aggF (num den:Int):Value:=.agg ⟨wordsL 8 (wordF num) (wordsL 8 (wordF den) [])⟩
def inF (z:Int):Bool:=Int.rec (motive:=fun _=>Bool) (fun n=>Nat.ble (Nat.succ n) h512) (fun n=>Nat.ble (Nat.succ n) h512) z
def toldF (n d:Int):Value:=fN (Int.gcd n d) fun g=>iB (inF (Int.ediv n (Int.ofNat g))) (iB (inF (Int.ediv d (Int.ofNat g))) (.tuple #[aggF (Int.ediv n (Int.ofNat g)) (Int.ediv d (Int.ofNat g)),.int .i64 (.ofNat 0)]) (.tuple #[aggF 0 0,.int .i64 (.ofNat 6)])) (.tuple #[aggF 0 0,.int .i64 (.ofNat 6)])
def posF (z:Int):Bool:=Int.rec (motive:=fun _=>Bool) (fun n=>Nat.ble 1 n) (fun _=>false) z
def okF (n d:Int):Bool:=iB (posF d) (Nat.beq (Int.gcd n d) 1) false
def shareF (v:Value) (k:Int→Int→Option Value):Option Value:=match v with
 | .agg cs=>iB (Nat.beq (lenL cs.toList) 16) (bO (wordsF cs.toList) fun x=>fN x fun x=>k (sgnF (Nat.mod x w512)) (sgnF (Nat.div x w512))) none
 | _=>none
def wideF (v:Value) (k:Int→Option Value):Option Value:=match v with
 | .agg cs=>iB (Nat.beq (lenL cs.toList) 8) (bO (wordsF cs.toList) fun x=>fN x fun x=>k (sgnF x)) none
 | _=>none
def intF (v:Value) (k:Int→Option Value):Option Value:=match v with
 | .int .i64 z=>k z
 | _=>none
def divF (n d:Int):Value:=Int.rec (motive:=fun _=>Value) (fun b=>toldF n (.ofNat b)) (fun b=>toldF (Int.neg n) (.ofNat (Nat.succ b))) d
def in64F (z:Int):Bool:=Int.rec (motive:=fun _=>Bool) (fun n=>Nat.ble (Nat.succ n) 9223372036854775808) (fun n=>Nat.ble (Nat.succ n) 9223372036854775808) z
def zeroF (z:Int):Bool:=Int.rec (motive:=fun _=>Bool) (fun n=>Nat.beq n 0) (fun _=>false) z
def cmpF (x y:Int):Int:=Int.rec (motive:=fun _=>Int) (fun n=>Nat.rec (motive:=fun _=>Int) 0 (fun _ _=>1) n) (fun _ => -1) (Int.sub x y)
def of2 (l:List Value):Option Value:=match l with
 | [n,d]=>intF n fun n=>intF d fun d=>iB (in64F n) (iB (in64F d) (iB (zeroF d) none (some (divF n d))) none) none
 | _=>none
def make2 (l:List Value):Option Value:=match l with
 | [n,d]=>wideF n fun n=>wideF d fun d=>iB (zeroF d) none (some (divF n d))
 | _=>none
def check1 (l:List Value):Option Value:=match l with
 | [a]=>shareF a fun n d=>some (.int .i64 (iB (okF n d) 0 20))
 | _=>none
def sign1 (l:List Value):Option Value:=match l with
 | [a]=>shareF a fun n d=>iB (okF n d) (some (.tuple #[.int .i64 (cmpF n 0),.int .i64 0])) none
 | _=>none
def two2 (of:Int→Int→Int→Int→Option Value) (l:List Value):Option Value:=match l with
 | [a,b]=>shareF a fun n d=>iB (okF n d) (shareF b fun m e=>iB (okF m e) (of n d m e) none) none
 | _=>none
def cmp2 (l:List Value):Option Value:=two2 (fun n d m e=>some (.tuple #[.int .i64 (cmpF (Int.mul n e) (Int.mul m d)),.int .i64 0])) l
def mul2 (l:List Value):Option Value:=two2 (fun n d m e=>some (toldF (Int.mul n m) (Int.mul d e))) l
def quo2 (l:List Value):Option Value:=two2 (fun n d m e=>iB (zeroF m) none (some (divF (Int.mul n e) (Int.mul d m)))) l
def max2 (l:List Value):Option Value:=two2 (fun n d m e=>some (iB (posF (Int.sub (Int.mul m d) (Int.mul n e))) (toldF m e) (toldF n d))) l
end
end Go.Id

namespace Go.Id
open Go
theorem w512_eq:w512=W8:=by rw[W8_eq];decide +kernel
theorem h512_eq:h512=H8:=by unfold H8;decide +kernel
theorem wordsF_some : ∀(l:List Value) (x:Nat),wordsF l=some x→x<18446744073709551616 ^ l.length∧l=(List.range l.length).map fun i=>K64 (wrd x i)
 | [],x,h=>by
  cases h;exact⟨by decide,rfl⟩
 | v :: l,x,h=>by
  change wordC v (wordsF l)=some x at h
  unfold wordC at h
  split at h
  case h_2=>cases h
  rename_i w
  obtain⟨h0,h⟩:=iB_some h
  cases hr:wordsF l with
  | none=>rw[hr] at h;cases h
  | some r =>
   rw[hr] at h
   cases h
   obtain⟨a,b⟩:=wordsF_some l r hr
   have hw:w<18446744073709551616:=bleI.1 h0
   show w+18446744073709551616*r<18446744073709551616 ^ (l.length+1)∧_
   refine⟨?_,?_⟩
   ·rw[Nat.pow_succ]
    have:(r+1)*18446744073709551616≤18446744073709551616 ^ l.length*18446744073709551616:=Nat.mul_le_mul_right _ a
    omega
   ·show _=(List.range (l.length+1)).map fun i=>K64 (wrd (w+18446744073709551616*r) i)
    rw[List.range_succ_eq_map,List.map_cons,List.map_map]
    have e0:wrd (w+18446744073709551616*r) 0=w:=by unfold wrd;rw[Nat.pow_zero,Nat.div_one];omega
    have e1 : ∀i,wrd (w+18446744073709551616*r) (i+1)=wrd r i:=fun i=>by
     unfold wrd
     rw[Nat.pow_succ,Nat.mul_comm (18446744073709551616 ^ i),←Nat.div_div_eq_div_mul,show(w+18446744073709551616*r) / 18446744073709551616=r from by omega]
    rw[e0]
    congr 1
    refine b.trans (List.map_congr_left fun i _=>?_)
    show _=K64 (wrd (w+18446744073709551616*r) (i+1))
    rw[e1]
theorem wrd_mod8 (x i:Nat) (hi:i<8):wrd (x % 18446744073709551616 ^ 8) i=wrd x i:=by
 have h:=wrd_add_low (n:=x % 18446744073709551616 ^ 8) (x:=x / 18446744073709551616 ^ 8) hi
 rw[←h,show x % 18446744073709551616 ^ 8+x / 18446744073709551616 ^ 8*18446744073709551616 ^ 8=x from by rw[Nat.mul_comm];exact Nat.mod_add_div _ _]
theorem wrd_div8 (x i:Nat):wrd (x / 18446744073709551616 ^ 8) i=wrd x (8+i):=by
 unfold wrd
 rw[Nat.div_div_eq_div_mul,←Nat.pow_add]
theorem words16 (x:Nat):((List.range 16).map fun i=>K64 (wrd x i))=shC (x % W8) (x / W8):=by
 rw[shC,wdC,wdC,W8_eq,show(16:Nat)=8+8 from rfl,List.range_add,List.map_append,List.map_map]
 congr 1
 ·exact List.map_congr_left fun i hi=>by rw[wrd_mod8 x i (by simpa using hi)]
 ·exact List.map_congr_left fun i hi=>by
   show K64 (wrd x (8+i))=_
   rw[wrd_div8]
theorem sgnF_eq {n:Nat} (hn:n<W8):sgnF n=wdI n:=by
 have e1:=h512_eq
 have e2:=w512_eq
 have e3:=W8_two
 unfold sgnF wdI
 rw[iB_eq,e1,e2]
 by_cases h:n<H8
 ·rw[if_pos h,bleI.2 h];rfl
 ·rw[if_neg h,Bool.eq_false_iff.2 (fun hb=>h (bleI.1 hb))]
  show Int.negSucc (W8 - n - 1)=_
  omega
theorem shareF_some {v:Value} {k:Int→Int→Option Value} {r:Value} (h:shareF v k=some r) : ∃p:Nat×Nat,(p.1<W8∧p.2<W8)∧v=shV p.1 p.2∧k (wdI p.1) (wdI p.2)=some r:=by
 unfold shareF at h
 split at h
 case h_2=>cases h
 rename_i cs
 obtain⟨h0,h⟩:=iB_some h
 have hl:cs.toList.length=16:=by rw[←lenL_eq];exact Nat.beq_eq.mp h0
 cases hx:wordsF cs.toList with
 | none=>rw[hx] at h;cases h
 | some x =>
  rw[hx,bO_some,fN_eq] at h
  obtain⟨a,b⟩:=wordsF_some _ _ hx
  rw[hl] at a b
  have ex:x<W8*W8:=by rw[W8_eq,←Nat.pow_add];exact a
  have hp:0<W8:=by have:=W8_two;have:=H8_pos;omega
  have q1:x % W8<W8:=Nat.mod_lt _ hp
  have q2:x / W8<W8:=by rw[Nat.div_lt_iff_lt_mul hp];exact ex
  refine⟨(x % W8,x / W8),⟨q1,q2⟩,?_,?_⟩
  ·rw[shV,←words16,←b]
  ·have h2:k (sgnF (x % w512)) (sgnF (x / w512))=some r:=h
   rw[w512_eq,sgnF_eq q1,sgnF_eq q2] at h2
   exact h2
theorem wideF_some {v:Value} {k:Int→Option Value} {r:Value} (h:wideF v k=some r) : ∃n:Nat,n<W8∧v=wdV n∧k (wdI n)=some r:=by
 unfold wideF at h
 split at h
 case h_2=>cases h
 rename_i cs
 obtain⟨h0,h⟩:=iB_some h
 have hl:cs.toList.length=8:=by rw[←lenL_eq];exact Nat.beq_eq.mp h0
 cases hx:wordsF cs.toList with
 | none=>rw[hx] at h;cases h
 | some x =>
  rw[hx,bO_some,fN_eq] at h
  obtain⟨a,b⟩:=wordsF_some _ _ hx
  rw[hl] at a b
  have q1:x<W8:=by rw[W8_eq];exact a
  refine⟨x,q1,?_,?_⟩
  ·rw[wdV,wdC,←b]
  ·rw[sgnF_eq q1] at h
   exact h
theorem intF_some {v:Value} {k:Int→Option Value} {r:Value} (h:intF v k=some r) : ∃z:Int,v=KI z∧k z=some r:=by
 unfold intF at h
 split at h
 case h_2=>cases h
 exact⟨_,rfl,h⟩
theorem wordsL_eq (tl:List Value) : ∀(k x:Nat),wordsL k x tl=((List.range k).map fun i=>K64 (wrd x i)) ++ tl
 | 0,_=>rfl
 | k+1,x=>by
  show fN (x % 18446744073709551616) (fun w=>Value.int .u64 (.ofNat w) :: wordsL k (x / 18446744073709551616) tl)=_
  rw[fN_eq,wordsL_eq tl k,List.range_succ_eq_map,List.map_cons,List.map_map,List.cons_append]
  have e0:wrd x 0=x % 18446744073709551616:=by unfold wrd;rw[Nat.pow_zero,Nat.div_one]
  rw[e0]
  congr 2
  refine List.map_congr_left fun i _=>?_
  show _=K64 (wrd x (i+1))
  unfold wrd
  rw[Nat.pow_succ,Nat.mul_comm (18446744073709551616 ^ i),Nat.div_div_eq_div_mul]
theorem wordF_eq {z:Int} (hz:InW z):wordF z=wideN z:=by
 have e2:=w512_eq
 unfold wideN
 cases z with
 | ofNat n=>rfl
 | negSucc n =>
  show w512 - (n+1)=_
  rw[e2,if_neg (by omega)];rfl
theorem aggF_eq {a b:Int} (ha:InW a) (hb:InW b):aggF a b=shV (wideN a) (wideN b):=by
 unfold aggF shV shC wdC
 rw[wordsL_eq,wordsL_eq,wordF_eq ha,wordF_eq hb,List.append_nil]
theorem inF_eq (z:Int):inF z=decide (InW z):=by
 have e1:=h512_eq
 have:=H8_pos
 rw[Bool.eq_iff_iff,decide_eq_true_eq]
 unfold InW
 cases z with
 | ofNat n =>
  show Nat.ble (n+1) h512=true ↔ -(H8:Int)≤(n:Int)∧(n:Int)<H8
  rw[bleI,e1]
  omega
 | negSucc n =>
  show Nat.ble (n+1) h512=true↔_
  rw[bleI,e1]
  omega
theorem toldF_eq {n d:Int} (hd:0<d):toldF n d=toldV (Rat.divInt n d):=by
 obtain⟨a,b⟩:=low_pos (n:=n) hd
 have z0:InW 0:=⟨by have:=H8_pos;omega,by have:=H8_pos;omega⟩
 have zz:aggF 0 0=shV 0 0:=by rw[aggF_eq z0 z0];rfl
 unfold toldF toldV
 rw[fN_eq,iB_eq,iB_eq,inF_eq,inF_eq]
 rw[show Int.ediv n (Int.ofNat (Int.gcd n d))=(Rat.divInt n d).num from a,show Int.ediv d (Int.ofNat (Int.gcd n d))=(Rat.divInt n d).den from b,zz]
 unfold QW
 by_cases c1:InW (Rat.divInt n d).num
 ·by_cases c2:InW ((Rat.divInt n d).den:Int)
  ·rw[if_pos ⟨c1,c2⟩,decide_eq_true c1,decide_eq_true c2,aggF_eq c1 c2];rfl
  ·rw[if_neg (fun h=>c2 h.2),decide_eq_true c1,decide_eq_false c2];rfl
 ·rw[if_neg (fun h=>c1 h.1),decide_eq_false c1];rfl
theorem posF_eq (z:Int):posF z=decide (0<z):=by
 rw[Bool.eq_iff_iff,decide_eq_true_eq]
 cases z with
 | ofNat n =>
  show Nat.ble 1 n=true↔0<(n:Int)
  rw[bleI];omega
 | negSucc n=>exact⟨fun h=>Bool.noConfusion h,fun h=>absurd h (by omega)⟩
theorem zeroF_eq (z:Int):zeroF z=decide (z=0):=by
 rw[Bool.eq_iff_iff,decide_eq_true_eq]
 cases z with
 | ofNat n =>
  show Nat.beq n 0=true↔(n:Int)=0
  rw[Nat.beq_eq];omega
 | negSucc n=>exact⟨fun h=>Bool.noConfusion h,fun h=>absurd h (by omega)⟩
theorem in64F_eq {z:Int} (h:in64F z=true):In64 z:=by
 unfold In64
 cases z with
 | ofNat n =>
  have:=bleI.1 (show Nat.ble (Nat.succ n) 9223372036854775808=true from h)
  show _≤(n:Int)∧(n:Int)<_
  omega
 | negSucc n =>
  have:=bleI.1 (show Nat.ble (Nat.succ n) 9223372036854775808=true from h)
  omega
theorem okF_ok {n d:Nat} (h:okF (wdI n) (wdI d)=true):okS n d:=by
 unfold okF at h
 rw[iB_eq,posF_eq] at h
 by_cases c:0<wdI d
 ·rw[decide_eq_true c] at h
  exact⟨c,Nat.beq_eq.mp h⟩
 ·rw[decide_eq_false c] at h;cases h
theorem okF_eq (n d:Nat):okF (wdI n) (wdI d)=(open Classical in decide (okS n d)):=by
 rw[Bool.eq_iff_iff,decide_eq_true_eq]
 refine⟨okF_ok,fun h=>?_⟩
 unfold okF
 rw[iB_eq,posF_eq,decide_eq_true h.1]
 exact Nat.beq_eq.mpr h.2
theorem divF_eq {n d:Int} (hd:d≠0):divF n d=toldV (Rat.divInt n d):=by
 cases d with
 | ofNat b =>
  show toldF n (b:Int)=toldV (Rat.divInt n (b:Int))
  have:(b:Int)≠0:=hd
  exact toldF_eq (by omega)
 | negSucc b =>
  show toldF (-n) ((b+1:Nat):Int)=_
  rw[toldF_eq (by omega)]
  congr 1
theorem cmpF_eq (x y:Int):cmpF x y=if x<y then -1 else if x=y then 0 else 1:=by
 unfold cmpF
 have e:Int.sub x y=x - y:=rfl
 rw[e]
 cases h:x - y with
 | ofNat n =>
  have h:x - y=(n:Int):=h
  cases n with
  | zero=>rw[if_neg (by omega),if_pos (by omega)];rfl
  | succ m=>rw[if_neg (by omega),if_neg (by omega)]
 | negSucc n=>rw[if_pos (by omega)]
theorem toldV_div {n d:Int} (hn:In64 n) (hd:In64 d) (d0:d≠0):toldV (Rat.divInt n d)=.tuple #[shareV (Rat.divInt n d),KI 0]:=by
 unfold toldV
 rw[if_pos (qw_div hn hd d0)]
abbrev Val (f:Value) (g:List Value→Option Value):Prop:=∀args v,args.all plain=true→g args=some v→plainT v=true∧WV Proofs.Tryz.prog f args (IH.start fun _=>none) fun r _=>r=v
theorem plain_shV (n d:Nat):plain (shV n d)=true:=by
 show(shC n d).toArray.all scal=true
 rw[shC,wdC,wdC,List.all_toArray,List.all_append,List.all_map,List.all_map]
 simp[scal]
theorem plain_toldV (q:Rat):plainT (toldV q)=true:=by
 obtain⟨n,d,e,h⟩:=toldV_form q
 rw[h]
 show [shV n d,KI e].all plain=true
 rw[List.all_cons,plain_shV];rfl
theorem val_of:Val (.func (.func 52) #[] #[]) of2:=by
 intro args v _ h
 unfold of2 at h
 split at h
 case h_2=>cases h
 obtain⟨n,e0,k⟩:=intF_some h
 clear h;subst e0;have h:=k;clear k
 obtain⟨d,e0,k⟩:=intF_some h
 clear h;subst e0;have h:=k;clear k
 obtain⟨h1,h⟩:=iB_some h
 obtain⟨h2,h⟩:=iB_some h
 obtain⟨h3,h⟩:=iB_some' h
 cases h
 have d0:d≠0:=by rw[zeroF_eq] at h3;exact of_decide_eq_false h3
 have e:=toldV_div (in64F_eq h1) (in64F_eq h2) d0
 rw[divF_eq d0]
 exact⟨plain_toldV _,(shof_ok n d (in64F_eq h1) (in64F_eq h2) d0).mono fun r h' k=>k.2.trans e.symm⟩
theorem val_of02:Val (.func (.func 46) #[] #[]) of2:=by
 intro args v _ h
 unfold of2 at h
 split at h
 case h_2=>cases h
 obtain⟨n,e0,k⟩:=intF_some h
 clear h;subst e0;have h:=k;clear k
 obtain⟨d,e0,k⟩:=intF_some h
 clear h;subst e0;have h:=k;clear k
 obtain⟨h1,h⟩:=iB_some h
 obtain⟨h2,h⟩:=iB_some h
 obtain⟨h3,h⟩:=iB_some' h
 cases h
 have d0:d≠0:=by rw[zeroF_eq] at h3;exact of_decide_eq_false h3
 have e:=toldV_div (in64F_eq h1) (in64F_eq h2) d0
 rw[divF_eq d0]
 exact⟨plain_toldV _,(ref02Of_ok n d (in64F_eq h1) (in64F_eq h2) d0).mono fun r h' k=>k.2.trans e.symm⟩
theorem val_make:Val (.func (.func 101) #[] #[]) make2:=by
 intro args v _ h
 unfold make2 at h
 split at h
 case h_2=>cases h
 obtain⟨n,hn,e0,k⟩:=wideF_some h
 clear h;subst e0;have h:=k;clear k
 obtain⟨d,hd,e0,k⟩:=wideF_some h
 clear h;subst e0;have h:=k;clear k
 obtain⟨h3,h⟩:=iB_some' h
 cases h
 have d0:wdI d≠0:=by rw[zeroF_eq] at h3;exact of_decide_eq_false h3
 rw[divF_eq d0]
 exact⟨plain_toldV _,(shmake_ok n d hn hd (fun e=>d0 ((wdI_zero_iff hd).2 e))).mono fun r h' k=>k.2⟩
theorem val_check:Val (.func (.func 50) #[] #[]) check1:=by
 intro args v _ h
 unfold check1 at h
 split at h
 case h_2=>cases h
 obtain⟨p,hp,e0,k⟩:=shareF_some h
 clear h;subst e0;have h:=k;clear k
 cases h
 rw[okF_eq,iB_eq]
 refine⟨rfl,(shcheck_ok p.1 p.2 hp.1 hp.2).mono fun r h' k=>k.2.trans ?_⟩
 by_cases c:okS p.1 p.2
 ·rw[if_pos c,decide_eq_true c];rfl
 ·rw[if_neg c,decide_eq_false c];rfl
theorem val_sign:Val (.func (.func 27) #[] #[]) sign1:=by
 intro args v _ h
 unfold sign1 at h
 split at h
 case h_2=>cases h
 obtain⟨p,hp,e0,k⟩:=shareF_some h
 clear h;subst e0;have h:=k;clear k
 obtain⟨ok,h⟩:=iB_some h
 cases h
 have ok:=okF_ok ok
 refine⟨rfl,(shsign_ok hp ok).mono fun r h' k=>k.2.trans ?_⟩
 have e:cmpF (wdI p.1) 0=if rOf p<0 then -1 else if rOf p=0 then 0 else 1:=by
  rw[cmpF_eq,←(rOf_parts ok).1]
  have hlt:rOf p<0↔(rOf p).num<0:=by rw[Rat.lt_iff];simp
  by_cases c:rOf p<0
  ·rw[if_pos c,if_pos (hlt.1 c)]
  ·rw[if_neg c,if_neg (fun h=>c (hlt.2 h))]
   by_cases c2:rOf p=0
   ·rw[if_pos c2,if_pos (Rat.num_eq_zero.2 c2)]
   ·rw[if_neg c2,if_neg (fun h=>c2 (Rat.num_eq_zero.1 h))]
 rw[e]
theorem two2_some {of:Int→Int→Int→Int→Option Value} {l:List Value} {v:Value} (h:two2 of l=some v) : ∃p q:Nat×Nat,(p.1<W8∧p.2<W8)∧(q.1<W8∧q.2<W8)∧okS p.1 p.2∧okS q.1 q.2∧l = [shV p.1 p.2,shV q.1 q.2]∧of (wdI p.1) (wdI p.2) (wdI q.1) (wdI q.2)=some v:=by
 unfold two2 at h
 split at h
 case h_2=>cases h
 obtain⟨p,hp,e0,k⟩:=shareF_some h
 clear h;subst e0;have h:=k;clear k
 obtain⟨ok1,h⟩:=iB_some h
 obtain⟨q,hq,e0,k⟩:=shareF_some h
 clear h;subst e0;have h:=k;clear k
 obtain⟨ok2,h⟩:=iB_some h
 exact⟨p,q,hp,hq,okF_ok ok1,okF_ok ok2,rfl,h⟩
theorem val_cmp:Val (.func (.func 21) #[] #[]) cmp2:=by
 intro args v _ h
 obtain⟨p,q,hp,hq,ok1,ok2,e0,k⟩:=two2_some h
 clear h;subst e0;have h:=k;clear k
 cases h
 refine⟨rfl,(shcmp_ok hp hq ok1 ok2).mono fun r h' k=>k.2.trans ?_⟩
 have e:cmpF (Int.mul (wdI p.1) (wdI q.2)) (Int.mul (wdI q.1) (wdI p.2))=if rOf p<rOf q then -1 else if rOf p=rOf q then 0 else 1:=by
  rw[cmpF_eq,←cmp_rat,(rOf_parts ok1).1,(rOf_parts ok1).2,(rOf_parts ok2).1,(rOf_parts ok2).2];rfl
 rw[e]
theorem val_mul:Val (.func (.func 26) #[] #[]) mul2:=by
 intro args v _ h
 obtain⟨p,q,hp,hq,ok1,ok2,e0,k⟩:=two2_some h
 clear h;subst e0;have h:=k;clear k
 cases h
 have e:toldF (Int.mul (wdI p.1) (wdI q.1)) (Int.mul (wdI p.2) (wdI q.2))=toldV (rOf p*rOf q):=by
  show toldF (wdI p.1*wdI q.1) (wdI p.2*wdI q.2)=_
  rw[toldF_eq (Int.mul_pos ok1.1 ok2.1),rat_mul,(rOf_parts ok1).1,(rOf_parts ok1).2,(rOf_parts ok2).1,(rOf_parts ok2).2]
 rw[e]
 exact⟨plain_toldV _,(shmul_ok hp hq ok1 ok2).mono fun r h' k=>k.2⟩
theorem val_div:Val (.func (.func 53) #[] #[]) quo2:=by
 intro args v _ h
 obtain⟨p,q,hp,hq,ok1,ok2,e0,k⟩:=two2_some h
 clear h;subst e0;have h:=k;clear k
 obtain⟨h3,h⟩:=iB_some' h
 cases h
 have m0:wdI q.1≠0:=by rw[zeroF_eq] at h3;exact of_decide_eq_false h3
 have d0:(Int.mul (wdI p.2) (wdI q.1))≠0:=Int.mul_ne_zero (by have:=ok1.1;omega) m0
 have e:divF (Int.mul (wdI p.1) (wdI q.2)) (Int.mul (wdI p.2) (wdI q.1))=toldV (rOf p / rOf q):=by
  rw[divF_eq d0,rat_div,(rOf_parts ok1).1,(rOf_parts ok1).2,(rOf_parts ok2).1,(rOf_parts ok2).2];rfl
 rw[e]
 exact⟨plain_toldV _,(shdiv_ok hp hq ok1 ok2 (fun e=>m0 ((wdI_zero_iff hq.1).2 e))).mono fun r h' k=>k.2⟩
theorem lt_wd {p q:Nat×Nat} (ok1:okS p.1 p.2) (ok2:okS q.1 q.2):(0<(Int.mul (wdI q.1) (wdI p.2)) - (Int.mul (wdI p.1) (wdI q.2)))↔rOf p<rOf q:=by
 rw[Rat.lt_iff,(rOf_parts ok1).1,(rOf_parts ok1).2,(rOf_parts ok2).1,(rOf_parts ok2).2]
 show 0<wdI q.1*wdI p.2 - wdI p.1*wdI q.2↔_
 omega
theorem val_max:Val (.func (.func 85) #[] #[]) max2:=by
 intro args v _ h
 obtain⟨p,q,hp,hq,ok1,ok2,e0,k⟩:=two2_some h
 clear h;subst e0;have h:=k;clear k
 cases h
 have e:iB (posF (Int.sub (Int.mul (wdI q.1) (wdI p.2)) (Int.mul (wdI p.1) (wdI q.2)))) (toldF (wdI q.1) (wdI q.2)) (toldF (wdI p.1) (wdI p.2))=toldV (qmax (rOf p) (rOf q)):=by
  rw[iB_eq,posF_eq,toldF_eq ok1.1,toldF_eq ok2.1]
  unfold qmax
  show(bif decide (0<(Int.mul (wdI q.1) (wdI p.2)) - (Int.mul (wdI p.1) (wdI q.2))) then toldV (rOf q) else toldV (rOf p))=_
  by_cases c:rOf p<rOf q
  ·rw[decide_eq_true ((lt_wd ok1 ok2).2 c),if_pos (Rat.le_of_lt c)];rfl
  ·rw[decide_eq_false (fun h=>c ((lt_wd ok1 ok2).1 h))]
   by_cases c2:rOf p≤rOf q
   ·rw[if_pos c2,Rat.le_antisymm c2 (Rat.not_lt.1 c)];rfl
   ·rw[if_neg c2];rfl
 rw[e]
 exact⟨plain_toldV _,(shmax_ok hp hq ok1 ok2).mono fun r h' k=>k.2⟩
end Go.Id

namespace Go.Id
open Go
open Go.Proofs.Tryz (prog)
open Nat (reduceAdd reduceEqDiff)
theorem indexFunc_ok {h:IH} {v fv:Value} {a:List Int} (p:Int→Bool) (ha:SlNow h 1 v a.length (a.map KI)) (la:a.length≤1000000000) (hp : ∀x∈a,WV prog fv [KI x] h fun r h'=>h'=h∧r=.bool (p x)) :
  WV prog (.func (.func 111) #[] #[]) [v,fv] h fun r h'=>h'=h ∧ ∃c:Int,r=KI c∧(0≤c↔a.any p=true):=by
 refine enter (nt:=19) (rs:=[.tmp 4]) Proofs.Tryz.func111 rfl rfl rfl (by simp) ?_
 simp -dsimp (maxSteps:=1000000) (disch:=try exact dx) only[wpS,reduceEqDiff,reduceAdd,ha.len sl29]
 refine loop (fun m fr h1=>h1=h ∧ ∃i:Nat,i+m=a.length∧fget fr 0=some v∧fget fr 1=some fv∧fget fr 7=some (KI a.length)∧fget fr 8=some (KI i)∧a.any p=(a.drop i).any p) a.length ⟨rfl,0,by simp,by simp,by simp,by simp,by simp,by simp⟩ ?_
 rintro m fr h1 ⟨rfl,i,him,f0,f1,f7,f8,hz⟩
 simp -dsimp (maxSteps:=1000000) (disch:=try exact dx) only[wpS,f7,f8]
 refine bq_intro ?_ ?_<;>intro hc2<;>simp only[decide_eq_true_eq,decide_eq_false_iff_not] at hc2
 ·have hi:i<a.length:=by omega
  obtain⟨x,hx⟩ : ∃x,a[i]?=some x:=⟨a[i],List.getElem?_eq_getElem hi⟩
  simp -dsimp (maxSteps:=1000000) (disch:=try exact dx) only[wpS,wpT,reduceEqDiff,f0,f1,f8,ha.idx es29 hi,ha.ld (P:=prog) (t:=3) (c:=i) (by simpa using hi) ag3,List.getElem?_map,hx]
  refine call (hp x (List.mem_of_getElem? hx)) ?_
  rintro _ _ ⟨rfl,rfl⟩
  have ea:a.drop i=x :: a.drop (i+1):=by
   have h1:=List.getElem?_eq_some_iff.1 hx
   rw[←h1.2,List.getElem_cons_drop_succ_eq_drop]
  rw[ea,List.any_cons] at hz
  simp -dsimp (maxSteps:=1000000) (disch:=try exact dx) only[wpS,reduceEqDiff]
  refine bq_intro ?_ ?_<;>intro hc
  ·simp -dsimp (maxSteps:=1000000) (disch:=try exact dx) only[wpS,wpT,reduceEqDiff]
   exact⟨_,rfl,by rw[hz,hc];simp⟩
  ·simp -dsimp (maxSteps:=1000000) (disch:=try exact dx) only[wpS,reduceEqDiff,f8]
   rw[hc,Bool.false_or] at hz
   exact⟨m - 1,by omega,rfl,i+1,by omega,by simp[f0],by simp[f1],by simp[f7],by simp,hz⟩
 ·simp -dsimp (maxSteps:=1000000) (disch:=try exact dx) only[wpS,wpT]
  exact⟨_,rfl,by rw[hz,List.drop_of_length_le (by omega)];simp⟩
theorem containsFunc_ok {h:IH} {v fv:Value} {a:List Int} (p:Int→Bool) (ha:SlNow h 1 v a.length (a.map KI)) (la:a.length≤1000000000) (hp : ∀x∈a,WV prog fv [KI x] h fun r h'=>h'=h∧r=.bool (p x)) :
  WV prog (.func (.func 67) #[] #[]) [v,fv] h fun r h'=>h'=h∧r=.bool (a.any p):=by
 refine enter (nt:=9) (rs:=[.tmp 4]) Proofs.Tryz.func67 rfl rfl rfl (by simp) ?_
 simp -dsimp (maxSteps:=1000000) (disch:=try exact dx) only[wpS,reduceEqDiff,reduceAdd]
 refine call (indexFunc_ok p ha la hp) ?_
 rintro _ _ ⟨rfl,c,rfl,hc⟩
 simp -dsimp (maxSteps:=1000000) (disch:=try exact dx) only[wpS,wpT,reduceEqDiff]
 cases hb:a.any p
 ·rw[hb] at hc
  simp at hc
  simp;exact hc
 ·rw[hb] at hc
  simp at hc
  simp;exact hc
end Go.Id

namespace Go.Id
open Go
open Go.Proofs.Tryz (prog)
open Nat (reduceAdd reduceEqDiff reduceLeDiff)
abbrev outR (lo hi n:Int):Bool:=decide (n<lo) || decide (hi<n)
abbrev inR (lo hi:Int) (l:List Int):Bool:=!(l.any (outR lo hi))
theorem inR_iff {lo hi:Int} {l:List Int}:inR lo hi l=true ↔ ∀n∈l,lo≤n∧n≤hi:=by
 unfold inR
 rw[Bool.not_eq_true',List.any_eq_false]
 refine⟨fun h n hn=>?_,fun h n hn=>?_⟩
 ·have:=h n hn
  simp only[outR,Bool.or_eq_true,decide_eq_true_eq,not_or] at this
  omega
 ·have:=h n hn
  simp only[outR,Bool.or_eq_true,decide_eq_true_eq,not_or]
  omega
theorem within1_ok {h:IH} {b b2:Nat} {lo hi n:Int} (g:h.ext.get b=some (.cells [KI lo] 0 none)) (g2:h.ext.get b2=some (.cells [KI hi] 0 none)) :
  WV prog (.func (.func 112) #[] #[ptr (2*b) 0,ptr (2*b2) 0]) [KI n] h fun r h'=>h'=h∧r=.bool (outR lo hi n):=by
 refine enter (nt:=13) (rs:=[.tmp 4]) Proofs.Tryz.func112 rfl rfl rfl (by simp) ?_
 by_cases c:n<lo
 ·have d:decide (n<lo)=true:=decide_eq_true c
  simp -dsimp (maxSteps:=1000000) (disch:=try exact dx) only[wpS,wpT,reduceEqDiff,reduceAdd,ld3,row_of g,d]
  simp[outR,d]
 ·have d:decide (n<lo)=false:=decide_eq_false c
  simp -dsimp (maxSteps:=1000000) (disch:=try exact dx) only[wpS,wpT,reduceEqDiff,reduceAdd,ld3,row_of g,row_of g2,d]
  simp[outR,d]
theorem within_ok {h:IH} {v:Value} {l:List Int} (lo hi:Int) (hv:SlOf h 1 v l.length (l.map KI)) (hl:l.length≤1000000000) :
  WV prog (.func (.func 72) #[] #[]) [KI lo,KI hi,v] h fun r h'=>Ext h h'∧r=.bool (inR lo hi l):=by
 refine enter (nt:=11) (rs:=[.tmp 6]) Proofs.Tryz.func72 rfl rfl rfl (by simp) ?_
 simp -dsimp (maxSteps:=1000000) (disch:=try exact dx) only[wpS,reduceEqDiff,reduceAdd]
 obtain⟨H0,hH0,n0,E0,g0,g1⟩:=boxes2 h [KI lo] [KI hi]
 rw[←hH0]
 clear hH0
 refine call (containsFunc_ok (outR lo hi) (hv.keep E0.keep).now hl (fun x hx=>within1_ok g0 g1)) ?_
 rintro _ _ ⟨rfl,rfl⟩
 simp -dsimp (maxSteps:=1000000) (disch:=try exact dx) only[wpS,wpT,reduceEqDiff]
 exact E0
theorem built1 (h:IH) (a:Int):SlOf (h.new (.cells [KI a] 1 none)) 1 (.slice (some ⟨2*h.n,0,none⟩) 1 3) 1 [KI a]:=built_sl h (m:=1) (by omega) rfl (by omega)
theorem built2 (h:IH) (a b:Int):SlOf (h.new (.cells [KI a,KI b] 1 none)) 1 (.slice (some ⟨2*h.n,0,none⟩) 2 5) 2 [KI a,KI b]:=built_sl h (m:=2) (by omega) rfl (by omega)
theorem known_ok {h:IH} {v:Value} {l:List Int} (m:Int) (hv:SlOf h 1 v l.length (l.map KI)) (hl:l.length≤1000000000) :
  WV prog (.func (.func 71) #[] #[]) [KI m,v] h fun r h'=>Ext h h'∧r=.bool (inR 11 15 [m] && inR 0 1000 l):=by
 refine enter (nt:=12) (rs:=[.tmp 4]) Proofs.Tryz.func71 rfl rfl rfl (by simp) ?_
 simp -dsimp (maxSteps:=1000000) (disch:=try exact dx) only[wpS,wpT,reduceEqDiff,reduceLeDiff,reduceAdd,bs29]
 have E1:Ext h (h.new (.cells [KI m] 1 none)):=(Ext.refl h).new _
 refine call (within_ok (l:=[m]) 11 15 (built1 h m) (by simp)) ?_
 rintro _ h1 ⟨X1,rfl⟩
 have E2:=E1.trans X1
 cases c:inR 11 15 [m]
 ·simp -dsimp (maxSteps:=1000000) (disch:=try exact dx) only[wpS,wpT,reduceEqDiff]
  exact E2
 ·simp -dsimp (maxSteps:=1000000) (disch:=try exact dx) only[wpS,wpT,reduceEqDiff]
  refine call (within_ok (l:=l) 0 1000 (hv.keep E2.keep) hl) ?_
  rintro _ h2 ⟨X2,rfl⟩
  simp -dsimp (maxSteps:=1000000) (disch:=try exact dx) only[wpS,wpT,reduceEqDiff]
  exact E2.trans X2
def postN (m s:Nat):Nat:=if m=11 then s else if m=12 then 2*s*(s+1) else if m=13 then s*(s+1) else if m=14 then 2*s+1 else s+1
def postD (m s:Nat):Nat:=if m=12 then 2*s+1 else if m=14 then 2 else 1
theorem postD_pos (m s:Nat):0<postD m s:=by unfold postD;split;omega;split<;>omega
theorem postN_le {m s:Nat} (h:s≤1000):postN m s≤2002000:=by
 have h1:s*(s+1)≤1000*1001:=Nat.mul_le_mul h (by omega)
 have h2:2*s*(s+1)=2*(s*(s+1)):=Nat.mul_assoc _ _ _
 unfold postN
 repeat' split
 all_goals omega
theorem postD_le {m s:Nat} (h:s≤1000):postD m s≤2001:=by
 unfold postD
 repeat' split
 all_goals omega
theorem adams_ok {h:IH} (s:Nat):WV prog (.func (.func 131) #[] #[]) [KN s] h fun r h'=>h'=h∧r=.tuple #[KN s,KN 1]:=by
 refine enter (nt:=5) (rs:=[.tmp 2,.tmp 3]) Proofs.Tryz.func131 rfl rfl rfl (by simp) ?_
 simp -dsimp (maxSteps:=1000000) (disch:=try exact dx) only[wpS,wpT,reduceEqDiff]
 rfl
theorem dean_ok {h:IH} (s:Nat) (hs:s≤1000):WV prog (.func (.func 132) #[] #[]) [KN s] h fun r h'=>h'=h∧r=.tuple #[KN (2*s*(s+1)),KN (2*s+1)]:=by
 have h1:s*(s+1)≤1000*1001:=Nat.mul_le_mul hs (by omega)
 have h2:2*s*(s+1)=2*(s*(s+1)):=Nat.mul_assoc _ _ _
 have e1:IntKind.i64.wrap (2*(s:Int))=((2*s:Nat):Int):=by rw[wrap_i64 (by omega)];omega
 have e2:IntKind.i64.wrap ((s:Int)+1)=((s+1:Nat):Int):=by rw[wrap_i64 (by omega)];omega
 have e3:IntKind.i64.wrap (((2*s:Nat):Int)*((s+1:Nat):Int))=((2*s*(s+1):Nat):Int):=by rw[←Int.natCast_mul,wrap_i64 (by omega)]
 have e4:IntKind.i64.wrap (((2*s:Nat):Int)+1)=((2*s+1:Nat):Int):=by rw[wrap_i64 (by omega)];omega
 refine enter (nt:=12) (rs:=[.tmp 2,.tmp 3]) Proofs.Tryz.func132 rfl rfl rfl (by simp) ?_
 simp -dsimp (maxSteps:=1000000) (disch:=try exact dx) only[wpS,wpT,reduceEqDiff,e1,e2,e3,e4]
theorem hill_ok {h:IH} (s:Nat) (hs:s≤1000):WV prog (.func (.func 133) #[] #[]) [KN s] h fun r h'=>h'=h∧r=.tuple #[KN (s*(s+1)),KN 1]:=by
 have h1:s*(s+1)≤1000*1001:=Nat.mul_le_mul hs (by omega)
 have e2:IntKind.i64.wrap ((s:Int)+1)=((s+1:Nat):Int):=by rw[wrap_i64 (by omega)];omega
 have e3:IntKind.i64.wrap ((s:Int)*((s+1:Nat):Int))=((s*(s+1):Nat):Int):=by rw[←Int.natCast_mul,wrap_i64 (by omega)]
 refine enter (nt:=8) (rs:=[.tmp 2,.tmp 3]) Proofs.Tryz.func133 rfl rfl rfl (by simp) ?_
 simp -dsimp (maxSteps:=1000000) (disch:=try exact dx) only[wpS,wpT,reduceEqDiff,e2,e3]
 rfl
theorem webster_ok {h:IH} (s:Nat) (hs:s≤1000):WV prog (.func (.func 134) #[] #[]) [KN s] h fun r h'=>h'=h∧r=.tuple #[KN (2*s+1),KN 2]:=by
 have e1:IntKind.i64.wrap (2*(s:Int))=((2*s:Nat):Int):=by rw[wrap_i64 (by omega)];omega
 have e4:IntKind.i64.wrap (((2*s:Nat):Int)+1)=((2*s+1:Nat):Int):=by rw[wrap_i64 (by omega)];omega
 refine enter (nt:=7) (rs:=[.tmp 2,.tmp 3]) Proofs.Tryz.func134 rfl rfl rfl (by simp) ?_
 simp -dsimp (maxSteps:=1000000) (disch:=try exact dx) only[wpS,wpT,reduceEqDiff,e1,e4]
 rfl
theorem jefferson_ok {h:IH} (s:Nat) (hs:s≤1000):WV prog (.func (.func 135) #[] #[]) [KN s] h fun r h'=>h'=h∧r=.tuple #[KN (s+1),KN 1]:=by
 have e2:IntKind.i64.wrap ((s:Int)+1)=((s+1:Nat):Int):=by rw[wrap_i64 (by omega)];omega
 refine enter (nt:=6) (rs:=[.tmp 2,.tmp 3]) Proofs.Tryz.func135 rfl rfl rfl (by simp) ?_
 simp -dsimp (maxSteps:=1000000) (disch:=try exact dx) only[wpS,wpT,reduceEqDiff,e2]
 rfl
theorem post_ok {h:IH} {m s:Nat} (hm:11≤m∧m≤15) (hs:s≤1000) :
  WV prog (.func (.func 104) #[] #[]) [KN s,KN m] h fun r h'=>Ext h h'∧r=.tuple #[KN (postN m s),KN (postD m s)]:=by
 have hc:m=11∨m=12∨m=13∨m=14∨m=15:=by omega
 rcases hc with rfl|rfl|rfl|rfl|rfl
 ·have i0:idxAt (((11:Nat):Int) - 11) 5=some 0:=rfl
  refine enter (nt:=16) (rs:=[.tmp 4,.tmp 5]) Proofs.Tryz.func104 rfl rfl rfl (by simp) ?_
  simp -dsimp (maxSteps:=1000000) (disch:=try exact dx) only[wpS,wpT,reduceEqDiff,reduceLeDiff,reduceAdd,bv184,pl184_0,pl184_1,pl184_2,pl184_3,pl184_4,zc184,st184,ar184,ld182,i0]
  refine call (adams_ok s) ?_
  rintro _ _ ⟨rfl,rfl⟩
  simp -dsimp (maxSteps:=1000000) (disch:=try exact dx) only[wpS,reduceEqDiff]
  exact⟨((Ext.refl h).new _).put (by simp) _,rfl⟩
 ·have i0:idxAt (((12:Nat):Int) - 11) 5=some 1:=rfl
  refine enter (nt:=16) (rs:=[.tmp 4,.tmp 5]) Proofs.Tryz.func104 rfl rfl rfl (by simp) ?_
  simp -dsimp (maxSteps:=1000000) (disch:=try exact dx) only[wpS,wpT,reduceEqDiff,reduceLeDiff,reduceAdd,bv184,pl184_0,pl184_1,pl184_2,pl184_3,pl184_4,zc184,st184,ar184,ld182,i0]
  refine call (dean_ok s hs) ?_
  rintro _ _ ⟨rfl,rfl⟩
  simp -dsimp (maxSteps:=1000000) (disch:=try exact dx) only[wpS,reduceEqDiff]
  exact⟨((Ext.refl h).new _).put (by simp) _,rfl⟩
 ·have i0:idxAt (((13:Nat):Int) - 11) 5=some 2:=rfl
  refine enter (nt:=16) (rs:=[.tmp 4,.tmp 5]) Proofs.Tryz.func104 rfl rfl rfl (by simp) ?_
  simp -dsimp (maxSteps:=1000000) (disch:=try exact dx) only[wpS,wpT,reduceEqDiff,reduceLeDiff,reduceAdd,bv184,pl184_0,pl184_1,pl184_2,pl184_3,pl184_4,zc184,st184,ar184,ld182,i0]
  refine call (hill_ok s hs) ?_
  rintro _ _ ⟨rfl,rfl⟩
  simp -dsimp (maxSteps:=1000000) (disch:=try exact dx) only[wpS,reduceEqDiff]
  exact⟨((Ext.refl h).new _).put (by simp) _,rfl⟩
 ·have i0:idxAt (((14:Nat):Int) - 11) 5=some 3:=rfl
  refine enter (nt:=16) (rs:=[.tmp 4,.tmp 5]) Proofs.Tryz.func104 rfl rfl rfl (by simp) ?_
  simp -dsimp (maxSteps:=1000000) (disch:=try exact dx) only[wpS,wpT,reduceEqDiff,reduceLeDiff,reduceAdd,bv184,pl184_0,pl184_1,pl184_2,pl184_3,pl184_4,zc184,st184,ar184,ld182,i0]
  refine call (webster_ok s hs) ?_
  rintro _ _ ⟨rfl,rfl⟩
  simp -dsimp (maxSteps:=1000000) (disch:=try exact dx) only[wpS,reduceEqDiff]
  exact⟨((Ext.refl h).new _).put (by simp) _,rfl⟩
 ·have i0:idxAt (((15:Nat):Int) - 11) 5=some 4:=rfl
  refine enter (nt:=16) (rs:=[.tmp 4,.tmp 5]) Proofs.Tryz.func104 rfl rfl rfl (by simp) ?_
  simp -dsimp (maxSteps:=1000000) (disch:=try exact dx) only[wpS,wpT,reduceEqDiff,reduceLeDiff,reduceAdd,bv184,pl184_0,pl184_1,pl184_2,pl184_3,pl184_4,zc184,st184,ar184,ld182,i0]
  refine call (jefferson_ok s hs) ?_
  rintro _ _ ⟨rfl,rfl⟩
  simp -dsimp (maxSteps:=1000000) (disch:=try exact dx) only[wpS,reduceEqDiff]
  exact⟨((Ext.refl h).new _).put (by simp) _,rfl⟩
end Go.Id

namespace Go.Id
open Go
open Go.Proofs.Tryz (prog)
section
variable {P:Program}
theorem pr_program:pureRun P (program)=some P:=rfl
theorem pr_part_agg {e:TypeId} {n:Nat} (hA:isAggT P e=some true) (hs:sizeT P e=some n) (cs:Array Value) (off:Nat):pureRun P (part e cs off)=some (.agg (cs.extract off (off+n))):=by
 unfold part
 have h1:pureRun P (isAgg e)=some true:=by
  unfold isAgg
  simp only[isAggT,Option.map_eq_some_iff] at hA
  obtain⟨d,hd,hA⟩:=hA
  rw[pr_bind (pr_underlying hd)]
  cases d<;>first|rfl|(simp at hA)
 rw[pr_bind h1]
 simp only[if_true]
 rw[pr_bind (pr_sizeOf hs)]
 rfl
theorem binop_eql_gen {t:TypeId} {x y:Array Value} {b:Bool} (hg:P.eqGuardType P.depth t=false) (hx:plain (.agg x)=true) (hy:plain (.agg y)=true) (h:pureRun P (Op.equal t (.agg x) (.agg y))=some b) (ox oy:Operand):binop P .eql t ox oy (.agg x) (.agg y)=some (.bool b):=by
 refine binop_of P t ox oy hx hy rfl ?_
 have h1:pureRun P (eqGuard .eql t ox oy (.agg x) (.agg y))=some ():=by
  show pureRun P (if (!P.eqGuardType P.depth t)=true then _ else _)=_
  rw[hg];rfl
 rw[pr_bind h1]
 show pureRun P (Op.equal t _ _ >>= fun r=>pure (Value.bool r))=_
 rw[pr_bind h];rfl
end
theorem sh_ext1 (n d:Nat):((shC n d).toArray).extract 0 8=(wdC n).toArray:=by
 simp only[List.extract_toArray,List.extract_eq_take_drop]
 rw[show(8 - 0)=8 from rfl,sh_take1]
theorem sh_ext2 (n d:Nat):((shC n d).toArray).extract 8 16=(wdC d).toArray:=by
 simp only[List.extract_toArray,List.extract_eq_take_drop]
 rw[show(16 - 8)=8 from rfl,sh_take2]
theorem wd_equalIn {n m:Nat} (hn:n<W8) (hm:m<W8) (k:Nat):pureRun prog (Op.equalIn (k+2) 45 (.agg (wdC n).toArray) (.agg (wdC m).toArray))=some (decide (n=m)):=by
 rw[wdC_map,wdC_map,pr_equal_arr u45 u43 sz43 _ _ _ (by simp) (by simp),wd_dec hn hm]
theorem sh_equalIn {n d n' d':Nat} (h1:n<W8) (h2:d<W8) (h3:n'<W8) (h4:d'<W8) (k:Nat):pureRun prog (Op.equalIn (k+3) 47 (.agg (shC n d).toArray) (.agg (shC n' d').toArray))=some (decide (n=n'∧d=d')):=by
 unfold Op.equalIn
 rw[pr_bind (pr_underlying (show Program.underlying prog 47=some (.struct { toList:=[{ name := "N",type:=45,offset:=0,embedded:=false,tag := "",pkgPath := "",byteOffset:=0 },{ name := "D",type:=45,offset:=8,embedded:=false,tag := "",pkgPath := "",byteOffset:=64 }] }) by kernel_rfl))]
 simp only
 rw[pr_bind pr_program,show Program.stoodInHeld prog 47=false by kernel_rfl]
 have seq : ∀{α β:Type} (s:Sem α) (f:α→Sem β),pureRun prog (s >>= f)=(pureRun prog s).bind fun a=>pureRun prog (f a):=fun s f=>pureRun_seq _ f s
 have p1:=fun(n d:Nat)=>pr_part_agg (P:=prog) ag45 sz45 (shC n d).toArray 0
 have p2:=fun(n d:Nat)=>pr_part_agg (P:=prog) ag45 sz45 (shC n d).toArray 8
 have n1:("N" ≠ "_")=True:=by simp
 have n2:("D" ≠ "_")=True:=by simp
 simp only[Bool.false_eq_true,if_false,←Array.forIn_toList,List.forIn_cons,List.forIn_nil,seq,n1,n2,if_true,p1,Option.bind_some,Nat.zero_add,sh_ext1,wd_equalIn h1 h3]
 by_cases e1:n=n'
 ·simp only[decide_eq_true e1,Bool.not_true,Bool.false_eq_true,if_false,pr_pure,Option.bind_some,seq,p2,show(8+8:Nat)=16 from rfl,sh_ext2,wd_equalIn h2 h4]
  by_cases e2:d=d'
  ·simp only[decide_eq_true e2,Bool.not_true,Bool.false_eq_true,if_false,pr_pure,Option.bind_some]
   rw[decide_eq_true (And.intro e1 e2)]
  ·simp only[decide_eq_false e2,Bool.not_false,if_true,pr_pure,Option.bind_some]
   rw[decide_eq_false (fun h=>e2 h.2)]
 ·simp only[decide_eq_false e1,Bool.not_false,if_true,pr_pure,Option.bind_some]
  rw[decide_eq_false (fun h=>e1 h.1)]
theorem sh_plain (n d:Nat):plain (.agg (shC n d).toArray)=true:=by
 simp only[plain,shC,wdC]
 simp[scal]
theorem sh_eql {n d n' d':Nat} (h1:n<W8) (h2:d<W8) (h3:n'<W8) (h4:d'<W8) (ox oy:Operand):binop prog .eql 47 ox oy (.agg (shC n d).toArray) (.agg (shC n' d').toArray)=some (.bool (decide (n=n'∧d=d'))):=by
 exact binop_eql_gen (by kernel_rfl) (sh_plain _ _) (sh_plain _ _) (sh_equalIn h1 h2 h3 h4 9997) ox oy
end Go.Id
