/-
  The ideal machine written for the kernel, second part: operations.
-/
import Derived.Test.YtnanhedgenokpaaGreatTemperDetailedBg
set_option linter.unusedVariables false
set_option linter.unusedSimpArgs false
set_option linter.defProp false
set_option linter.deprecated false
namespace Go.Id
open Go
noncomputable section
abbrev OpSem:=Env→CallV→Fr→IH→Option (Value×IH)
def okV (h:IH) (o:Option Value):Option (Value×IH):=bO o fun v=>some (v,h)
theorem okV_eq (h:IH) (o:Option Value):okV h o=o.map (·,h):=by cases o<;>rfl
def okH (o:Option IH):Option (Value×IH):=bO o fun h=>some (undef,h)
theorem okH_eq (o:Option IH):okH o=o.map (undef,·):=by cases o<;>rfl
def forceS (v:Value):Value:=match v with
 | .slice (some ⟨b,o,none⟩) n c=>fN b fun b=>fN o fun o=>fN n fun n=>fN c fun c=>.slice (some ⟨b,o,none⟩) n c
 | v=>v
theorem forceS_eq (v:Value):forceS v=v:=by
 unfold forceS
 split
 ·simp only[fN_eq]
 ·rfl
def partsF (l:List (Nat×Operand)) (fr:Fr):Option (List (Nat×Value)):=List.rec (motive:=fun _=>Option (List (Nat×Value))) (some []) (fun p _ ih=>bO (opdF p.2 fr) fun v=>bO ih fun vs=>some ((p.1,v) :: vs)) l
theorem partsF_eq : ∀(l:List (Nat×Operand)) (fr:Fr),partsF l fr=partsOf fr l
 | [],_=>rfl
 | (i,x) :: l,fr=>by
  show bO (opdF x fr) (fun v=>bO (partsF l fr) fun vs=>some ((i,v) :: vs))=_
  rw[opdF_eq,partsF_eq l fr,partsOf]
  cases opd fr x<;>cases partsOf fr l<;>rfl
def fillF (place:Nat→Option (Nat×Nat)) (l:List (Nat×Value)) (cells:List Value):Option (List Value):=List.rec (motive:=fun _=>List Value→Option (List Value)) (fun c=>some c) (fun p _ ih cells=>bO (place p.1) fun q=>iB (Nat.beq (lenL (cellsL p.2)) q.2) (bO (spliceF q.1 (cellsL p.2) cells) ih) none) l cells
theorem fillF_eq (place:Nat→Option (Nat×Nat)) : ∀(l:List (Nat×Value)) (cells:List Value),fillF place l cells=fillP place cells l
 | [],_=>rfl
 | (i,v) :: l,cells=>by
  show bO (place i) (fun q=>iB (Nat.beq (lenL (cellsL v)) q.2) (bO (spliceF q.1 (cellsL v) cells) (fillF place l)) none)=_
  rw[fillP]
  cases hp:place i with
  | none=>rfl
  | some q =>
   obtain⟨o,n⟩:=q
   simp only[bO_some,cellsL_eq,lenL_eq,spliceF_some,beqN,Array.length_toList]
   cases hn:Nat.beq v.cells.size n with
   | false=>rfl
   | true =>
    have hn:=Nat.beq_eq.mp hn
    subst hn
    simp only[iB_true,Bool.true_and]
    cases Nat.ble (o+v.cells.size) cells.length with
    | false=>rfl
    | true=>exact fillF_eq place l _
def partF (P:Program) (t:TypeId) (l:List Value) (off:Nat):Option Value:=bO (isAggT P t) fun g=>iB g (bO (sizeT P t) fun n=>forceL (takeL n (dropF off l)) fun cs=>some (.agg ⟨cs⟩)) (nthF off l)
theorem partF_eq (P:Program) (t:TypeId) (cs:Array Value) (off:Nat):partF P t cs.toList off=partOf P t cs off:=by
 unfold partF partOf
 cases isAggT P t with
 | none=>cases sizeT P t<;>rfl
 | some g =>
  cases g with
  | false =>
   simp only[bO_some,iB_false,nthF_eq]
   exact Array.getElem?_toList
  | true =>
   simp only[bO_some,iB_true]
   cases sizeT P t with
   | none=>rfl
   | some n =>
    simp only[bO_some,forceL_eq,takeL_eq,dropF_eq]
    refine congrArg (fun a=>some (Value.agg a)) ?_
    apply Array.ext'
    simp[Array.toList_extract]
def moveF (x:Operand):OpSem:=fun _ _ fr h=>okV h (opdF x fr)
def pickF (c a b:Operand):OpSem:=fun _ _ fr h=>bO (opdF c fr) fun v=>match v with
 | .bool t=>iB t (okV h (opdF a fr)) (okV h (opdF b fr))
 | _=>none
def freshF (h:IH) (o:IObj):Option (Value×IH):=newF h o fun n h=>fN (Nat.mul 2 n) fun b=>some (.pointer (some ⟨b,0,none⟩),h)
theorem freshF_eq (h:IH) (o:IObj):freshF h o=some (ptr (2*h.n) 0,h.new o):=by
 unfold freshF
 rw[newF_eq,fN_eq];rfl
def allocF (t:TypeId):OpSem:=fun E _ _ h=>bO (zeroCellsT E.P t) fun z=>freshF h (.cells z 0 none)
def boxF (_:TypeId) (x:Operand):OpSem:=fun _ _ fr h=>bO (opdF x fr) fun v=>forceL (cellsL v) fun cs=>freshF h (.cells cs 0 none)
def buildF (t:TypeId) (parts:Array (Nat×Operand)):OpSem:=fun E _ fr h=>bO (zeroCellsT E.P t) fun z=>bO (partsF parts.toList fr) fun ps=>iB (allSized E.P t) (bO (fillF (placeOf E.P t) ps z) fun cs=>some (.agg ⟨cs⟩,h)) none
def elemT (P:Program) (t:TypeId):Option TypeId:=match P.underlying t with
 | some (.slice e)=>some e
 | _=>none
def sliceNew (h:IH) (cells:List Value) (n len c:Nat):Option (Value×IH):=forceL cells fun cells=>newF h (.cells cells n none) fun k h=>fN (Nat.mul 2 k) fun b=>fN c fun c=>some (.slice (some ⟨b,0,none⟩) len c,h)
theorem sliceNew_eq (h:IH) (cells:List Value) (n len c:Nat):sliceNew h cells n len c=some (.slice (some ⟨2*h.n,0,none⟩) len c,h.new (.cells cells n none)):=by
 unfold sliceNew
 rw[forceL_eq,newF_eq,fN_eq,fN_eq];rfl
def buildSliceF (t:TypeId) (len:Nat) (parts:Array (Nat×Operand)):OpSem:=fun E _ fr h=>bO (partsF parts.toList fr) fun ps=>bO (elemT E.P t) fun e=>bO (sizeT E.P e) fun n=>bO (zeroCellsT E.P e) fun z =>
 iB (Nat.ble (Nat.mul len n) cellsMost) (iB (Nat.beq (lenL z) n) (bO (fillF (fun i=>some (Nat.mul i n,n)) ps (replF len z)) fun cells=>sliceNew h cells n len (Nat.succ (Nat.mul 2 len))) none) none
def loadOpF (t:TypeId) (a:Operand):OpSem:=fun E _ fr h=>bO (opdF a fr) fun a=>okV h (loadF E.P h t a)
def storeOpF (t:TypeId) (a x:Operand):OpSem:=fun E _ fr h=>bO (opdF a fr) fun a=>bO (opdF x fr) fun v=>okH (storeF E.P h t a v)
def nilCheckF (x:Operand):OpSem:=fun _ _ fr h=>bO (opdF x fr) fun v=>match v with
 | .pointer (some a)=>some (.pointer (some a),h)
 | .func (.func f) xs ys=>some (.func (.func f) xs ys,h)
 | .func (.yield f) xs ys=>some (.func (.yield f) xs ys,h)
 | .map r=>some (.map r,h)
 | _=>none
def binOpF (op:BinOp) (t:TypeId) (x y:Operand) (_:TypeId):OpSem:=fun E _ fr h=>bO (opdF x fr) fun a=>bO (opdF y fr) fun b=>okV h (binopF E.P op t x y a b)
def unF (P:Program) (op:UnOp) (v:Value):Option Value:=match op,v with
 | .not,.bool b=>some (.bool (not b))
 | op,v=>bif plain v then pureVal P (Op.unary op v) else none
theorem unF_eq (P:Program) (op:UnOp) (v:Value):unF P op v=bif plain v then pureVal P (Op.unary op v) else none:=by
 unfold unF
 split
 ·rename_i b;exact(unary_not P b).symm
 ·rfl
def unOpF (op:UnOp) (_:TypeId) (x:Operand):OpSem:=fun E _ fr h=>bO (opdF x fr) fun v=>okV h (unF E.P op v)
def intT (P:Program) (t:TypeId):Option IntKind:=match P.underlying t with
 | some (.int k)=>some k
 | _=>none
def convF (P:Program) (s d:TypeId) (v:Value):Option Value:=match v with
 | .int k (.ofNat n)=>orElse (iB (P.underlying s).isSome (bO (intT P d) fun k'=>okI k' n) none) (convV P s d (.int k (.ofNat n)))
 | v=>convV P s d v
theorem convF_eq (P:Program) (s d:TypeId) (v:Value):convF P s d v=convV P s d v:=by
 unfold convF
 split
 ·rename_i k n
  refine orElse_eq (fun v h=>?_) rfl
  obtain⟨h0,h⟩:=iB_some h
  unfold intT at h
  split at h
  ·rename_i k' hd
   obtain⟨h1,rfl⟩:=okI_some h
   rw[show(Int.ofNat n)=(n:Int) from rfl,convV_int h0 hd,wrap_lim h1]
  ·cases h
 ·rfl
def convertF (s d:TypeId) (x:Operand):OpSem:=fun E _ fr h=>bO (opdF x fr) fun v=>okV h (convF E.P s d v)
def restF (o:Op):OpSem:=fun E _ fr h=>iop E.P fr o h
def makeFuncF (fn:Fn) (first cap:Array Operand):OpSem:=fun _ _ fr h=>bO (opdsF first.toList fr) fun a=>bO (opdsF cap.toList fr) fun b=>match fn with
 | .func f=>some (.func (.func f) ⟨a⟩ ⟨b⟩,h)
 | _=>none
def makeSliceV (P:Program) (h:IH) (t:TypeId) (l c:Value):Option (Value×IH):=bO (elemT P t) fun e=>bO (natOf l sizeMost) fun l=>bO (natOf c sizeMost) fun c=>bO (sizeT P e) fun n=>bO (bytesT P e) fun by_=>bO (zeroCellsT P e) fun z =>
 iB (Nat.ble l c) (iB (Nat.ble (Nat.mul c (Nat.succ by_)) sizeMost) (iB (Nat.beq (lenL z) n) (sliceNew h (replF c z) n l (Nat.succ (Nat.mul 2 c))) none) none) none
theorem makeSliceV_eq (P:Program) (h:IH) (t:TypeId) (l c:Value):makeSliceV P h t l c=makeSlice P h t l c:=by
 unfold makeSliceV makeSlice elemT
 cases P.underlying t with
 | none=>rfl
 | some d =>
  cases d with
  | slice e =>
   simp only[bO_some]
   cases natOf l sizeMost with
   | none=>rfl
   | some l =>
    cases natOf c sizeMost with
    | none=>rfl
    | some c =>
     cases sizeT P e with
     | none=>rfl
     | some n =>
      cases bytesT P e with
      | none=>rfl
      | some b =>
       cases zeroCellsT P e with
       | none=>rfl
       | some z =>
        simp only[bO_some,sliceNew_eq,replF_eq,lenL_eq,iB_eq,beqN]
        show(bif Nat.ble l c then (bif Nat.ble (c*(b+1)) sizeMost then (bif Nat.beq z.length n then _ else none) else none) else none)=_
        cases Nat.ble l c<;>cases Nat.ble (c*(b+1)) sizeMost<;>cases Nat.beq z.length n<;>rfl
  | _=>rfl
def makeSliceF (t:TypeId) (l c:Operand):OpSem:=fun E _ fr h=>bO (opdF l fr) fun l=>bO (opdF c fr) fun c=>makeSliceV E.P h t l c
def optF (fr:Fr) (o:Option Operand):Option (Option Value):=Option.rec (motive:=fun _=>Option (Option Value)) (some none) (fun x=>bO (opdF x fr) fun v=>some (some v)) o
theorem optF_eq (fr:Fr) (o:Option Operand):optF fr o=optOpd fr o:=by
 cases o with
 | none=>rfl
 | some x =>
  show bO (opdF x fr) (fun v=>some (some v))=(opd fr x).map some
  rw[opdF_eq]
  cases opd fr x<;>rfl
def sliceF (t:TypeId) (x:Operand) (lo hi mx:Option Operand):OpSem:=fun E _ fr h=>bO (opdF x fr) fun x=>bO (optF fr lo) fun lo=>bO (optF fr hi) fun hi=>bO (optF fr mx) fun mx=>bO (sliceOp E.P h t x lo hi mx) fun v=>some (forceS v,h)
def addrOf (v:Value) (k:Nat→Nat→Option (Value×IH)):Option (Value×IH):=match v with
 | .pointer (some ⟨b,o,none⟩)=>k b o
 | _=>none
theorem addrOf_eq (v:Value) (k:Nat→Nat→Option (Value×IH)):addrOf v k=bO (asAddr v) fun a=>k a.1 a.2:=by
 unfold addrOf asAddr
 split
 ·rfl
 ·rename_i hv
  split
  ·exact absurd rfl (hv _ _)
  ·rfl
def fieldAddrF (t:TypeId) (x:Operand) (f:Nat):OpSem:=fun E _ fr h=>bO (opdF x fr) fun x=>bO (fieldOf E.P t f) fun f=>bO (sizeT E.P f.type) fun n=>addrOf x fun b o=>iB (Nat.beq n 0) none (fN (Nat.add o f.offset) fun o=>some (.pointer (some ⟨b,o,none⟩),h))
def fieldF (t:TypeId) (x:Operand) (f:Nat):OpSem:=fun E _ fr h=>bO (opdF x fr) fun x=>bO (fieldOf E.P t f) fun f=>match x with
 | .agg cs=>okV h (partF E.P f.type cs.toList f.offset)
 | _=>none
def eaT (P:Program) (t:TypeId):Option (Option Nat×Nat):=match P.underlying t with
 | some (.array n e)=>(sizeT P e).map fun s=>(some n,s)
 | some (.slice e)=>(sizeT P e).map fun s=>(none,s)
 | _=>none
def indexAddrV (P:Program) (t:TypeId) (x i:Value):Option Value:=match x,i with
 | .slice (some ⟨b,o,none⟩) n c,.int k (.ofNat j)=>bO (eaT P t) fun e=>Option.rec (motive:=fun _=>Option Value) (iB (Nat.ble (Nat.succ j) n) (fN (Nat.add o (Nat.mul j e.2)) fun o=>some (.pointer (some ⟨b,o,none⟩))) none) (fun _=>indexAddr P t (.slice (some ⟨b,o,none⟩) n c) (.int k (.ofNat j))) e.1
 | .pointer (some ⟨b,o,none⟩),.int k (.ofNat j)=>bO (eaT P t) fun e=>Option.rec (motive:=fun _=>Option Value) (indexAddr P t (.pointer (some ⟨b,o,none⟩)) (.int k (.ofNat j))) (fun n=>iB (Nat.ble (Nat.succ j) n) (fN (Nat.add o (Nat.mul j e.2)) fun o=>some (.pointer (some ⟨b,o,none⟩))) none) e.1
 | x,i=>indexAddr P t x i
theorem indexAddrV_eq (P:Program) (t:TypeId) (x i:Value):indexAddrV P t x i=indexAddr P t x i:=by
 unfold indexAddrV
 split
 ·rename_i b o n c k j
  unfold eaT indexAddr
  cases hu:P.underlying t with
  | none=>rfl
  | some d =>
   cases d with
   | array n e =>
    simp only[]
    cases sizeT P e<;>rfl
   | slice e =>
    simp only[idxOf]
    cases sizeT P e with
    | none=>rfl
    | some s =>
     simp only[Option.map_some,bO_some,iB_eq,fN_eq];rfl
   | _=>rfl
 ·rename_i b o k j
  unfold eaT indexAddr
  cases hu:P.underlying t with
  | none=>rfl
  | some d =>
   cases d with
   | array n e =>
    simp only[idxOf]
    cases sizeT P e with
    | none=>rfl
    | some s =>
     simp only[Option.map_some,bO_some,iB_eq,fN_eq];rfl
   | slice e =>
    simp only[]
    cases sizeT P e<;>rfl
   | _=>rfl
 ·rfl
def indexAddrF (t:TypeId) (x i:Operand):OpSem:=fun E _ fr h=>bO (opdF x fr) fun x=>bO (opdF i fr) fun i=>okV h (indexAddrV E.P t x i)
def indexVF (P:Program) (h:IH) (t:TypeId) (x i:Value):Option (Value×IH):=match x with
 | .agg cs=>match P.underlying t,idxOf i with
   | some (.array n e),some (.ofNat j)=>bif Nat.blt j n then match sizeT P e with
     | some size=>okV h (partF P e cs.toList (Nat.mul j size))
     | none=>none
    else none
   | _,_=>none
 | .string s=>bif plain i then (pureVal P (Instr.index t (.string s) i)).map (·,h) else none
 | _=>none
def indexF (t:TypeId) (x i:Operand):OpSem:=fun E _ fr h=>bO (opdF x fr) fun x=>bO (opdF i fr) fun i=>indexVF E.P h t x i
def lookupF (t:TypeId) (m k:Operand) (ok:Bool):OpSem:=fun E _ fr h=>bO (opdF m fr) fun m=>bO (opdF k fr) fun k=>okV h (lookup E.P h t m k ok)
def mapUpdateF (t:TypeId) (m k v:Operand):OpSem:=fun E _ fr h=>bO (opdF m fr) fun m=>bO (opdF k fr) fun k=>bO (opdF v fr) fun v=>okH (mapUpdate E.P h t m k v)
def extractF (x:Operand) (i:Nat):OpSem:=fun _ _ fr h=>bO (opdF x fr) fun v=>match v with
 | .tuple vs=>okV h (nthF i vs.toList)
 | _=>none
def firstF (h:IH) (size n:Nat) (x:Value):Option (List Value):=match x with
 | .slice none _ _=>some []
 | .slice (some ⟨b,o,none⟩) len _=>iB (Nat.ble n len) (fN (Nat.mul n size) fun m=>iB (Nat.beq m 0) (some []) (rdN h b o m)) none
 | _=>none
theorem firstF_eq (h:IH) (size n:Nat) (x:Value):firstF h size n x=firstOf h size n x:=by
 unfold firstF firstOf
 split
 ·rfl
 ·rename_i b o len c
  simp only[fN_eq,iB_eq,beqN]
  show(bif Nat.ble n len then (bif Nat.beq (n*size) 0 then some [] else rdN h b o (n*size)) else none)=bif Nat.ble n len then (bif Nat.beq (n*size) 0 then some [] else h.rd b o (n*size)) else none
  cases hz:Nat.beq (n*size) 0 with
  | true=>rfl
  | false=>rw[rdN_eq h b o (n*size) (fun e=>by rw[e] at hz;cases hz)]
 ·rename_i h1 h2
  split
  ·exact absurd rfl (h1 _ _)
  ·exact absurd rfl (h2 _ _ _ _)
  ·rfl
def twF (b:Nat) (l:List Nat):List Nat:=List.rec (motive:=fun _=>List Nat) [] (fun a _ ih=>iB (Nat.beq a b) [] (a :: ih)) l
theorem twF_eq (b:Nat) : ∀l:List Nat,twF b l=l.takeWhile (· != b)
 | []=>rfl
 | a :: l=>by
  show iB (Nat.beq a b) [] (a :: twF b l)=_
  rw[twF_eq b l,List.takeWhile_cons,bne,beqN]
  cases Nat.beq a b<;>rfl
def dwF (b:Nat) (l:List Nat):List Nat:=List.rec (motive:=fun _=>List Nat) [] (fun a l ih=>iB (Nat.beq a b) l ih) l
theorem dwF_eq (b:Nat) : ∀l:List Nat,dwF b l=(l.dropWhile (· != b)).drop 1
 | []=>rfl
 | a :: l=>by
  show iB (Nat.beq a b) l (dwF b l)=_
  rw[dwF_eq b l,List.dropWhile_cons,bne,beqN]
  cases Nat.beq a b<;>rfl
def killF (l:List Nat) (e:Tr IObj):Tr IObj:=List.rec (motive:=fun _=>Tr IObj→Tr IObj) (fun e=>e) (fun k _ ih e=>trPut .dead e k ih) l e
theorem killF_eq : ∀(l:List Nat) (e:Tr IObj),killF l e=IH.killAll e l
 | [],_=>rfl
 | k :: l,e=>by
  show trPut .dead e k (killF l)=_
  rw[trPut_eq,killF_eq l];rfl
def grownF (h:IH) (k f:Nat) (cs:List Value) (t:Nat) (above below:List Nat) (cs':List Value) (t' len:Nat):Option (Value×IH):=IH.rec (motive:=fun _=>Option (Value×IH)) (fun base n ext fams =>
 forceL cs' fun cs'=>fN n fun n=>trPut (.cells cs t (some f)) (killF above ext) k fun e=>trPut (.cells cs' t' (some f)) e n fun e=>trPut (n :: k :: below) fams f fun fa=>fN (Nat.mul 2 n) fun b=>fN (Nat.mul 2 len) fun c=>some (.slice (some ⟨b,0,none⟩) len c,⟨base,Nat.succ n,e,fa⟩)) h
theorem grownF_eq (h:IH) (k f:Nat) (cs:List Value) (t:Nat) (above below:List Nat) (cs':List Value) (t' len:Nat):grownF h k f cs t above below cs' t' len=some (.slice (some ⟨2*h.n,0,none⟩) len (2*len),grown h k f cs t above below cs' t'):=by
 obtain⟨base,n,ext,fams⟩:=h
 show(forceL cs' fun cs'=>fN n fun n=>trPut (.cells cs t (some f)) (killF above ext) k fun e=>trPut (.cells cs' t' (some f)) e n fun e=>trPut (n :: k :: below) fams f fun fa=>fN (Nat.mul 2 n) fun b=>fN (Nat.mul 2 len) fun c=>some (Value.slice (some ⟨b,0,none⟩) len c,(⟨base,Nat.succ n,e,fa⟩:IH)))=_
 rw[forceL_eq,fN_eq,trPut_eq,trPut_eq,trPut_eq,fN_eq,fN_eq,killF_eq];rfl
def appG (h:IH) (size bytes n:Nat) (new:List Value) (s:Value):Option (Value×IH):=match s with
 | .slice none a c=>iB (Nat.beq a 0) (iB (Nat.beq c 0) (iB (Nat.ble (Nat.mul n (Nat.succ bytes)) sizeMost) (sliceNew h new size n (Nat.mul 2 n)) none) none) none
 | .slice (some ⟨b,o,none⟩) len k =>
  iB (Nat.ble (Nat.mul (Nat.add len n) (Nat.succ bytes)) sizeMost)
   (fN (Nat.add len n) fun m=>iB (Nat.ble m (Nat.div k 2)) (bO (wrF h b (Nat.add o (Nat.mul len size)) new) fun h=>some (.slice (some ⟨b,o,none⟩) m k,h))
    (iB (Nat.beq (Nat.mod k 2) 1) (bO (firstF h size len (.slice (some ⟨b,o,none⟩) len k)) fun old=>sliceNew h (appF old new) size m (Nat.mul 2 m))
     (iB (Nat.beq len (Nat.div k 2)) (iB (Nat.ble 1 len) (iB (Nat.beq (Nat.mod b 2) 0) (fN (Nat.div b 2) fun b2=>bO (trGet h.ext b2) fun ob=>match ob with
      | .cells cs t fam=>iB (Nat.beq (Nat.add o (Nat.mul len size)) (lenL cs)) (iB (Nat.beq t size) (match fam with
        | none=>grownF h b2 h.n cs t [] [] (appF (dropF o cs) new) size m
        | some f=>bO (trGet h.fams f) fun stk=>grownF h b2 f cs t (twF b2 stk) (dwF b2 stk) (appF (dropF o cs) new) size m) none) none
      | _=>none) none) none) none)))
   none
 | _=>none
def appendV (P:Program) (h:IH) (st:TypeId) (s x:Value):Option (Value×IH) :=
 bO (elemT P st) fun e=>bO (sizeT P e) fun size=>bO (bytesT P e) fun bytes=>bO (zeroCellsT P e) fun zs=>bO (lenOf x) fun n=>fN n fun n =>
  iB (Nat.beq n 0) (match s with|.slice none a c=>bif a == 0 && c == 0 then some (s,h) else none|.slice (some ⟨_,_,none⟩) _ _=>some (s,h)|_=>none)
   (iB (Nat.beq size 0) none (iB (Nat.ble bytes 65536) (iB (Nat.beq (lenL zs) size) (bO (firstF h size n x) fun new=>iB (allF cellF new) (appG h size bytes n new s) none) none) none))
theorem appG_eq (h:IH) (size bytes n:Nat) (new:List Value) (s:Value):appG h size bytes n new s=match s with
    | .slice none a c=>bif a == 0 && c == 0 && Nat.ble (n*(bytes+1)) sizeMost then some (.slice (some ⟨2*h.n,0,none⟩) n (2*n),h.new (.cells new size none)) else none
    | .slice (some ⟨b,o,none⟩) len k =>
     bif !(Nat.ble ((len+n)*(bytes+1)) sizeMost) then none else
     bif Nat.ble (len+n) (k / 2) then (h.wr b (o+len*size) new).map fun h=>(.slice (some ⟨b,o,none⟩) (len+n) k,h)
     else bif k % 2 == 1 then
      match firstOf h size len s with
      | none=>none
      | some old=>some (.slice (some ⟨2*h.n,0,none⟩) (len+n) (2*(len+n)),h.new (.cells (old ++ new) size none))
     else bif len == k / 2 && Nat.blt 0 len && b % 2 == 0 then
      match h.ext.get (b / 2) with
      | some (.cells cs t fam) =>
       bif o+len*size == cs.length && t == size then
        match fam with
        | none=>some (.slice (some ⟨2*h.n,0,none⟩) (len+n) (2*(len+n)),grown h (b / 2) h.n cs t [] [] (cs.drop o ++ new) size)
        | some f=>match h.fams.get f with
         | none=>none
         | some stk=>some (.slice (some ⟨2*h.n,0,none⟩) (len+n) (2*(len+n)),
           grown h (b / 2) f cs t (stk.takeWhile (· != b / 2)) ((stk.dropWhile (· != b / 2)).drop 1) (cs.drop o ++ new) size)
       else none
      | _=>none
     else none
    | _=>none:=by
 unfold appG
 split
 ·rename_i a c
  simp only[iB_eq,sliceNew_eq,beqN]
  show(bif Nat.beq a 0 then (bif Nat.beq c 0 then (bif Nat.ble (n*(bytes+1)) sizeMost then _ else none) else none) else none)=_
  cases Nat.beq a 0<;>cases Nat.beq c 0<;>cases Nat.ble (n*(bytes+1)) sizeMost<;>rfl
 ·rename_i b o len k
  simp only[iB_eq,fN_eq,sliceNew_eq,beqN,wrF_eq,firstF_eq,appF_eq,trGet_eq,lenL_eq,grownF_eq,dropF_eq,twF_eq,dwF_eq]
  show(bif Nat.ble ((len+n)*(bytes+1)) sizeMost then (bif Nat.ble (len+n) (k / 2) then (bO (h.wr b (o+len*size) new) fun h=>some (Value.slice (some ⟨b,o,none⟩) (len+n) k,h)) else (bif Nat.beq (k % 2) 1 then (bO (firstOf h size len (.slice (some ⟨b,o,none⟩) len k)) fun old=>some (Value.slice (some ⟨2*h.n,0,none⟩) (len+n) (2*(len+n)),h.new (.cells (old ++ new) size none))) else
   (bif Nat.beq len (k / 2) then (bif Nat.blt 0 len then (bif Nat.beq (b % 2) 0 then (bO (h.ext.get (b / 2)) fun ob=>match ob with
      | .cells cs t fam=>bif Nat.beq (o+len*size) cs.length then (bif Nat.beq t size then (match fam with
        | none=>some (Value.slice (some ⟨2*h.n,0,none⟩) (len+n) (2*(len+n)),grown h (b / 2) h.n cs t [] [] (cs.drop o ++ new) size)
        | some f=>bO (h.fams.get f) fun stk=>some (Value.slice (some ⟨2*h.n,0,none⟩) (len+n) (2*(len+n)),grown h (b / 2) f cs t (stk.takeWhile (· != b / 2)) ((stk.dropWhile (· != b / 2)).drop 1) (cs.drop o ++ new) size)) else none) else none
      | _=>none) else none) else none) else none))) else none)=_
  cases Nat.ble ((len+n)*(bytes+1)) sizeMost with
  | false=>rfl
  | true =>
   simp only[cond_true,Bool.not_true,cond_false]
   cases Nat.ble (len+n) (k / 2) with
   | true =>
    simp only[cond_true]
    cases h.wr b (o+len*size) new<;>rfl
   | false =>
    simp only[cond_false]
    cases Nat.beq (k % 2) 1 with
    | true =>
     simp only[cond_true]
     cases firstOf h size len (.slice (some ⟨b,o,none⟩) len k)<;>rfl
    | false =>
     simp only[cond_false]
     cases Nat.beq len (k / 2) with
     | false=>rfl
     | true =>
      cases Nat.blt 0 len with
      | false=>rfl
      | true =>
       cases Nat.beq (b % 2) 0 with
       | false=>rfl
       | true =>
        simp only[cond_true,Bool.and_true]
        cases h.ext.get (b / 2) with
        | none=>rfl
        | some ob =>
         cases ob with
         | cells cs t fam =>
          simp only[bO_some]
          cases Nat.beq (o+len*size) cs.length with
          | false=>rfl
          | true =>
           cases Nat.beq t size with
           | false=>rfl
           | true =>
            cases fam with
            | none=>rfl
            | some f =>
             simp only[cond_true,Bool.and_true]
             cases h.fams.get f<;>rfl
         | _=>rfl
 ·rfl
theorem appendV_eq (P:Program) (h:IH) (st:TypeId) (s x:Value):appendV P h st s x=append P h st s x:=by
 unfold appendV append elemT
 cases hu:P.underlying st with
 | none=>rfl
 | some d =>
  cases d with
  | slice e =>
   simp only[bO_some]
   cases sizeT P e with
   | none=>rfl
   | some size =>
    cases bytesT P e with
    | none=>rfl
    | some bytes =>
     cases zeroCellsT P e with
     | none=>rfl
     | some zs =>
      cases lenOf x with
      | none=>rfl
      | some n =>
       simp only[bO_some,fN_eq,iB_eq,beqN,lenL_eq,firstF_eq,allF_eq,cellF_eq,appG_eq]
       cases Nat.beq n 0 with
       | true=>rfl
       | false =>
        cases Nat.beq size 0 with
        | true=>rfl
        | false =>
         cases Nat.ble bytes 65536 with
         | false=>rfl
         | true =>
          cases Nat.beq zs.length size with
          | false=>rfl
          | true =>
           simp only[cond_true,cond_false,Bool.not_true,Bool.or_false]
           cases firstOf h size n x with
           | none=>rfl
           | some new =>
            simp only[bO_some]
            cases new.all cellOK<;>rfl
  | _=>rfl
def builtinF (P:Program) (h:IH) (b:Builtin) (ts:Array TypeId) (args:List Value):Option (Value×IH):=match b,args with
 | .append,[s,x]=>iB (isSliceT P ts[1]?) (bO ts[0]? fun st=>appendV P h st s x) (builtin P h .append ts [s,x])
 | b,args=>builtin P h b ts args
theorem builtinF_eq (P:Program) (h:IH) (b:Builtin) (ts:Array TypeId) (args:List Value):builtinF P h b ts args=builtin P h b ts args:=by
 unfold builtinF
 split
 ·rename_i s x
  rw[iB_eq]
  have e:builtin P h .append ts [s,x]=bif isSliceT P ts[1]? then (match ts[0]? with|some st=>append P h st s x|none=>none) else bif isIntT P ts[1]? then (match ts[0]? with|some st=>appendZ P h st s x|none=>none) else none:=rfl
  cases hs:isSliceT P ts[1]? with
  | false=>rfl
  | true =>
   rw[e,hs]
   cases ts[0]? with
   | none=>rfl
   | some st=>exact appendV_eq P h st s x
 ·rfl
def callOpF (c:Call):OpSem:=fun E call fr h=>match c.callee with
 | .value f=>bO (opdF f fr) fun fv=>bO (opdsF c.args.toList fr) fun vs=>call fv vs h
 | .builtin b=>bO (opdsF c.args.toList fr) fun vs=>builtinF E.P h b c.argTypes vs
 | .invoke _ _=>none
def runF (o:Op):OpSem:=Op.rec (motive:=fun _=>OpSem) moveF moveF pickF allocF boxF buildF buildSliceF mapUpdateF loadOpF storeOpF (fun a=>restF (.ready a)) (fun a=>restF (.waits a)) nilCheckF binOpF unOpF convertF
 (fun a b=>restF (.sliceToArrayPointer a b)) (fun a b=>restF (.makeInterface a b)) makeFuncF (fun a b=>restF (.makeMap a b)) (fun a b=>restF (.makeChan a b)) makeSliceF sliceF fieldAddrF fieldF indexAddrF indexF lookupF mapUpdateF
 (fun a b c=>restF (.mapEntry a b c)) (fun a b c d=>restF (.entryStore a b c d)) (fun a b=>restF (.range a b)) (fun a b=>restF (.next a b)) (fun a=>restF (.entry a)) (fun a b c d=>restF (.typeAssert a b c d)) extractF callOpF
 (fun a=>restF (.go a)) (fun a=>restF (.defer a)) (fun a=>restF (.panic a)) (fun a b=>restF (.send a b)) (fun a b c=>restF (.recv a b c)) (fun a b=>restF (.select a b)) o
theorem runF_eq (o:Op) (E:Env) (call:CallV) (fr:Fr) (h:IH):runF o E call fr h=runOp E call fr o h:=by
 cases o
 case move x=>show okV h (opdF x fr)=_;rw[okV_eq,opdF_eq];rfl
 case assign x=>show okV h (opdF x fr)=_;rw[okV_eq,opdF_eq];rfl
 case pick c a b =>
  show bO (opdF c fr) _=match opd fr c with|some (.bool true)=>(opd fr a).map (·,h)|some (.bool false)=>(opd fr b).map (·,h)|_=>none
  simp only[opdF_eq,okV_eq]
  cases opd fr c with
  | none=>rfl
  | some v =>
   cases v with
   | bool t=>cases t<;>rfl
   | _=>rfl
 case alloc t =>
  show bO (zeroCellsT E.P t) _=(zeroCellsT E.P t).map _
  simp only[freshF_eq]
  cases zeroCellsT E.P t<;>rfl
 case box t x =>
  show bO (opdF x fr) _=(opd fr x).map _
  simp only[forceL_eq,freshF_eq,cellsL_eq,opdF_eq]
  cases opd fr x<;>rfl
 case build t ps =>
  show bO (zeroCellsT E.P t) _=match zeroCellsT E.P t,partsOf fr ps.toList with|some z,some ps=>(bif allSized E.P t then (fillP (placeOf E.P t) z ps).map fun cs=>(Value.agg cs.toArray,h) else none)|_,_=>none
  simp only[partsF_eq,fillF_eq,iB_eq]
  cases zeroCellsT E.P t with
  | none=>rfl
  | some z =>
   cases partsOf fr ps.toList with
   | none=>rfl
   | some l =>
    simp only[bO_some]
    cases allSized E.P t with
    | false=>rfl
    | true =>
     simp only[cond_true]
     cases fillP (placeOf E.P t) z l<;>rfl
 case buildSlice t len ps =>
  show bO (partsF ps.toList fr) _=match partsOf fr ps.toList with|some ps=>buildSlice E.P h t len ps|none=>none
  simp only[partsF_eq,fillF_eq,sliceNew_eq,lenL_eq,iB_eq,replF_eq]
  cases partsOf fr ps.toList with
  | none=>rfl
  | some l =>
   simp only[bO_some]
   unfold buildSlice elemT
   cases E.P.underlying t with
   | none=>rfl
   | some d =>
    cases d with
    | slice e =>
     simp only[bO_some]
     cases sizeT E.P e with
     | none=>rfl
     | some n =>
      cases zeroCellsT E.P e with
      | none=>rfl
      | some z =>
       simp only[bO_some,beqN]
       show(bif Nat.ble (len*n) cellsMost then (bif Nat.beq z.length n then (bO (fillP (fun i=>some (i*n,n)) (repl len z) l) fun cells=>some (Value.slice (some ⟨2*h.n,0,none⟩) len (2*len+1),h.new (.cells cells n none))) else none) else none)=_
       cases Nat.ble (len*n) cellsMost<;>cases Nat.beq z.length n<;>first|rfl|skip
       simp only[cond_true,Bool.and_true]
       cases fillP (fun i=>some (i*n,n)) (repl len z) l<;>rfl
    | _=>rfl
 case load t a =>
  show bO (opdF a fr) _=match opd fr a with|some a=>(load E.P h t a).map (·,h)|none=>none
  simp only[opdF_eq,okV_eq,loadF_eq]
  cases opd fr a<;>rfl
 case store t a x =>
  show bO (opdF a fr) _=match opd fr a,opd fr x with|some a,some v=>(store E.P h t a v).map (undef,·)|_,_=>none
  simp only[opdF_eq,okH_eq,storeF_eq]
  cases opd fr a<;>cases opd fr x<;>rfl
 case nilCheck x =>
  show bO (opdF x fr) _=_
  rw[opdF_eq]
  simp only[runOp,iop]
  cases opd fr x with
  | none=>rfl
  | some v =>
   cases v with
   | pointer a=>cases a<;>rfl
   | func f a b=>cases f<;>rfl
   | _=>rfl
 case binOp op t x y s =>
  show bO (opdF x fr) _=match opd fr x,opd fr y with|some a,some b=>(binop E.P op t x y a b).map (·,h)|_,_=>none
  simp only[opdF_eq,okV_eq,binopF_eq]
  cases opd fr x<;>cases opd fr y<;>rfl
 case unOp op t x =>
  show bO (opdF x fr) _=match opd fr x with|some v=>(bif plain v then (pureVal E.P (Op.unary op v)).map (·,h) else none)|none=>none
  simp only[opdF_eq,okV_eq,unF_eq]
  cases opd fr x with
  | none=>rfl
  | some v =>
   simp only[bO_some]
   cases plain v<;>rfl
 case convert s d x =>
  show bO (opdF x fr) _=match opd fr x with|some v=>(bif plain v then (pureVal E.P (Go.convert s d v)).map (·,h) else none)|none=>none
  simp only[opdF_eq,okV_eq,convF_eq,convV]
  cases opd fr x with
  | none=>rfl
  | some v =>
   simp only[bO_some]
   cases plain v<;>rfl
 case makeFunc fn a b =>
  show bO (opdsF a.toList fr) _=match opds fr a.toList,opds fr b.toList with|some a,some b=>(match fn with|.func f=>some (Value.func (.func f) a.toArray b.toArray,h)|_=>none)|_,_=>none
  simp only[opdsF_eq]
  cases opds fr a.toList<;>cases opds fr b.toList<;>first|rfl|(cases fn<;>rfl)
 case makeSlice t l c =>
  show bO (opdF l fr) _=match opd fr l,opd fr c with|some l,some c=>makeSlice E.P h t l c|_,_=>none
  simp only[opdF_eq,makeSliceV_eq]
  cases opd fr l<;>cases opd fr c<;>rfl
 case slice t x lo hi mx =>
  show bO (opdF x fr) _=match opd fr x,optOpd fr lo,optOpd fr hi,optOpd fr mx with|some x,some lo,some hi,some mx=>(sliceOp E.P h t x lo hi mx).map (·,h)|_,_,_,_=>none
  simp only[opdF_eq,optF_eq,forceS_eq]
  cases opd fr x<;>cases optOpd fr lo<;>cases optOpd fr hi<;>cases optOpd fr mx<;>first|rfl|skip
  simp only[bO_some]
  rename_i x lo hi mx
  cases sliceOp E.P h t x lo hi mx<;>rfl
 case fieldAddr t x f =>
  show bO (opdF x fr) _=match opd fr x,fieldOf E.P t f with|some x,some f=>(match asAddr x,sizeT E.P f.type with|some (b,o),some n=>(bif n == 0 then none else some (ptr b (o+f.offset),h))|_,_=>none)|_,_=>none
  simp only[opdF_eq,addrOf_eq,iB_eq,fN_eq,beqN]
  cases opd fr x with
  | none=>rfl
  | some v =>
   cases fieldOf E.P t f with
   | none=>rfl
   | some fd =>
    simp only[bO_some]
    cases sizeT E.P fd.type with
    | none=>cases asAddr v<;>rfl
    | some n =>
     cases asAddr v with
     | none=>rfl
     | some a=>rfl
 case field t x f =>
  show bO (opdF x fr) _=_
  simp only[opdF_eq,okV_eq,partF_eq,runOp,iop]
  cases opd fr x with
  | none=>rfl
  | some v =>
   cases fieldOf E.P t f with
   | none=>cases v<;>rfl
   | some fd=>cases v<;>rfl
 case indexAddr t x i =>
  show bO (opdF x fr) _=match opd fr x,opd fr i with|some x,some i=>(indexAddr E.P t x i).map (·,h)|_,_=>none
  simp only[opdF_eq,okV_eq,indexAddrV_eq]
  cases opd fr x<;>cases opd fr i<;>rfl
 case index t x i =>
  show bO (opdF x fr) _=_
  simp only[opdF_eq,runOp,iop,indexVF,okV_eq]
  cases opd fr x with
  | none=>rfl
  | some v =>
   cases opd fr i with
   | none=>cases v<;>rfl
   | some j =>
    cases v with
    | agg cs =>
     simp only[bO_some]
     split
     ·rename_i hu hj
      rw[hu,hj]
      simp only
      split
      ·rename_i hs;rw[hs,partF_eq];rfl
      ·rename_i hs;rw[hs]
     ·rename_i hn
      split
      ·rename_i hu hj;exact absurd hj (hn _ _ _ hu)
      ·rfl
    | _=>rfl
 case lookup t m k ok =>
  show bO (opdF m fr) _=match opd fr m,opd fr k with|some m,some k=>(lookup E.P h t m k ok).map (·,h)|_,_=>none
  simp only[opdF_eq,okV_eq]
  cases opd fr m<;>cases opd fr k<;>rfl
 case mapUpdate t m k v =>
  show bO (opdF m fr) _=match opd fr m,opd fr k,opd fr v with|some m,some k,some v=>(mapUpdate E.P h t m k v).map (undef,·)|_,_,_=>none
  simp only[opdF_eq,okH_eq]
  cases opd fr m<;>cases opd fr k<;>cases opd fr v<;>rfl
 case insert t m k v =>
  show bO (opdF m fr) _=match opd fr m,opd fr k,opd fr v with|some m,some k,some v=>(mapUpdate E.P h t m k v).map (undef,·)|_,_,_=>none
  simp only[opdF_eq,okH_eq]
  cases opd fr m<;>cases opd fr k<;>cases opd fr v<;>rfl
 case extract x i =>
  show bO (opdF x fr) _=_
  simp only[opdF_eq,okV_eq,nthF_eq,runOp,iop]
  cases opd fr x with
  | none=>rfl
  | some v =>
   cases v with
   | tuple vs=>simp only[bO_some,Array.getElem?_toList]
   | _=>rfl
 case call c =>
  show callOpF c E call fr h=_
  unfold callOpF
  simp only[opdF_eq,opdsF_eq,builtinF_eq,runOp,iop]
  cases c.callee with
  | value f=>simp only;cases opd fr f<;>cases opds fr c.args.toList<;>rfl
  | builtin b=>simp only;cases opds fr c.args.toList<;>rfl
  | invoke _ _=>rfl
 all_goals rfl
end
end Go.Id
