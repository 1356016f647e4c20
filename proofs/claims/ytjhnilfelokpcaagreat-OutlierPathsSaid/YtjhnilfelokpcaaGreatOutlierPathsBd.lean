/-
  The ideal machine written for the kernel, second part: operations.
-/
import Derived.Test.YtjhnilfelokpcaaGreatOutlierPathsBc
set_option linter.unusedVariables false
set_option linter.unusedSimpArgs false
set_option linter.defProp false
set_option linter.deprecated false
namespace Go.Id
open Go
noncomputable section
abbrev fE:=Env→bd→Fr→IH→Option (Value×IH)
def okV (h:IH) (o:Option Value):Option (Value×IH):=bO o fun v=>some (v,h)
theorem jG (h:IH) (o:Option Value):okV h o=o.map (·,h):=by cases o<;>rfl
def okH (o:Option IH):Option (Value×IH):=bO o fun h=>some (undef,h)
theorem HG (o:Option IH):okH o=o.map (undef,·):=by cases o<;>rfl
def Ii (v:Value):Value:=match v with
 | .slice (some ⟨b,o,none⟩) n c=>fN b fun b=>fN o fun o=>fN n fun n=>fN c fun c=>.slice (some ⟨b,o,none⟩) n c
 | v=>v
theorem MK (v:Value):Ii v=v:=by
 unfold Ii
 split
 ·simp only[dN]
 ·rfl
def y4 (l:List (Nat×Operand)) (fr:Fr):Option (List (Nat×Value)):=List.rec (motive:=fun _=>Option (List (Nat×Value))) (some []) (fun p _ ih=>bO (cL p.2 fr) fun v=>bO ih fun vs=>some ((p.1,v) :: vs)) l
theorem vx : ∀(l:List (Nat×Operand)) (fr:Fr),y4 l fr=partsOf fr l
 | [],_=>rfl
 | (i,x) :: l,fr=>by
  show bO (cL x fr) (fun v=>bO (y4 l fr) fun vs=>some ((i,v) :: vs))=_
  rw[cu,vx l fr,partsOf]
  cases opd fr x<;>cases partsOf fr l<;>rfl
def Ki (place:Nat→Option (Nat×Nat)) (l:List (Nat×Value)) (cells:List Value):Option (List Value):=List.rec (motive:=fun _=>List Value→Option (List Value)) (fun c=>some c) (fun p _ ih cells=>bO (place p.1) fun q=>iB (Nat.beq (zx (pe p.2)) q.2) (bO (tO q.1 (pe p.2) cells) ih) none) l cells
theorem zU (place:Nat→Option (Nat×Nat)) : ∀(l:List (Nat×Value)) (cells:List Value),Ki place l cells=cj place cells l
 | [],_=>rfl
 | (i,v) :: l,cells=>by
  show bO (place i) (fun q=>iB (Nat.beq (zx (pe v)) q.2) (bO (tO q.1 (pe v) cells) (Ki place l)) none)=_
  rw[cj]
  cases hp:place i with
  | none=>rfl
  | some q =>
   obtain⟨o,n⟩:=q
   simp only[aW,vV,jX,oE,kJ,Array.length_toList]
   cases hn:Nat.beq v.cells.size n with
   | false=>rfl
   | true =>
    have hn:=Nat.beq_eq.mp hn
    subst hn
    simp only[yc,Bool.true_and]
    cases Nat.ble (o+v.cells.size) cells.length with
    | false=>rfl
    | true=>exact zU place l _
def JL (P:Program) (t:TypeId) (l:List Value) (off:Nat):Option Value:=bO (bE P t) fun g=>iB g (bO (aJ P t) fun n=>vK (Ty n (B7 off l)) fun cs=>some (.agg ⟨cs⟩)) (Pg off l)
theorem Fk (P:Program) (t:TypeId) (cs:Array Value) (off:Nat):JL P t cs.toList off=partOf P t cs off:=by
 unfold JL partOf
 cases bE P t with
 | none=>cases aJ P t<;>rfl
 | some g =>
  cases g with
  | false =>
   simp only[aW,qt,Db]
   exact Array.getElem?_toList
  | true =>
   simp only[aW,yc]
   cases aJ P t with
   | none=>rfl
   | some n =>
    simp only[aW,oe,Eu,qB]
    refine congrArg (fun a=>some (Value.agg a)) ?_
    apply Array.ext'
    simp[Array.toList_extract]
def TQ (x:Operand):fE:=fun _ _ fr h=>okV h (cL x fr)
def WD (c a b:Operand):fE:=fun _ _ fr h=>bO (cL c fr) fun v=>match v with
 | .bool t=>iB t (okV h (cL a fr)) (okV h (cL b fr))
 | _=>none
def DA (h:IH) (o:bR):Option (Value×IH):=Mo h o fun n h=>fN (Nat.mul 2 n) fun b=>some (.pointer (some ⟨b,0,none⟩),h)
theorem BZ (h:IH) (o:bR):DA h o=some (ptr (2*h.n) 0,h.new o):=by
 unfold DA
 rw[xU,dN];rfl
def Wd (t:TypeId):fE:=fun E _ _ h=>bO (aB E.P t) fun z=>DA h (.cells z 0 none)
def boxF (_:TypeId) (x:Operand):fE:=fun _ _ fr h=>bO (cL x fr) fun v=>vK (pe v) fun cs=>DA h (.cells cs 0 none)
def V0 (t:TypeId) (parts:Array (Nat×Operand)):fE:=fun E _ fr h=>bO (aB E.P t) fun z=>bO (y4 parts.toList fr) fun ps=>iB (bU E.P t) (bO (Ki (placeOf E.P t) ps z) fun cs=>some (.agg ⟨cs⟩,h)) none
def B6 (P:Program) (t:TypeId):Option TypeId:=match P.underlying t with
 | some (.slice e)=>some e
 | _=>none
def nN (h:IH) (cells:List Value) (n len c:Nat):Option (Value×IH):=vK cells fun cells=>Mo h (.cells cells n none) fun k h=>fN (Nat.mul 2 k) fun b=>fN c fun c=>some (.slice (some ⟨b,0,none⟩) len c,h)
theorem mG (h:IH) (cells:List Value) (n len c:Nat):nN h cells n len c=some (.slice (some ⟨2*h.n,0,none⟩) len c,h.new (.cells cells n none)):=by
 unfold nN
 rw[oe,xU,dN,dN];rfl
def GC (t:TypeId) (len:Nat) (parts:Array (Nat×Operand)):fE:=fun E _ fr h=>bO (y4 parts.toList fr) fun ps=>bO (B6 E.P t) fun e=>bO (aJ E.P e) fun n=>bO (aB E.P e) fun z =>
 iB (Nat.ble (Nat.mul len n) iZ) (iB (Nat.beq (zx z) n) (bO (Ki (fun i=>some (Nat.mul i n,n)) ps (Jv len z)) fun cells=>nN h cells n len (Nat.succ (Nat.mul 2 len))) none) none
def Sq (t:TypeId) (a:Operand):fE:=fun E _ fr h=>bO (cL a fr) fun a=>okV h (JV E.P h t a)
def Od (t:TypeId) (a x:Operand):fE:=fun E _ fr h=>bO (cL a fr) fun a=>bO (cL x fr) fun v=>okH (G7 E.P h t a v)
def Mn (x:Operand):fE:=fun _ _ fr h=>bO (cL x fr) fun v=>match v with
 | .pointer (some a)=>some (.pointer (some a),h)
 | .func (.func f) xs ys=>some (.func (.func f) xs ys,h)
 | .func (.yield f) xs ys=>some (.func (.yield f) xs ys,h)
 | .map r=>some (.map r,h)
 | _=>none
def V7 (op:BinOp) (t:TypeId) (x y:Operand) (_:TypeId):fE:=fun E _ fr h=>bO (cL x fr) fun a=>bO (cL y fr) fun b=>okV h (IB E.P op t x y a b)
def unF (P:Program) (op:UnOp) (v:Value):Option Value:=match op,v with
 | .not,.bool b=>some (.bool (not b))
 | op,v=>bif plain v then cE P (Op.unary op v) else none
theorem UE (P:Program) (op:UnOp) (v:Value):unF P op v=bif plain v then cE P (Op.unary op v) else none:=by
 unfold unF
 split
 ·rename_i b;exact(vb P b).symm
 ·rfl
def Wu (op:UnOp) (_:TypeId) (x:Operand):fE:=fun E _ fr h=>bO (cL x fr) fun v=>okV h (unF E.P op v)
def WZ (P:Program) (t:TypeId):Option IntKind:=match P.underlying t with
 | some (.int k)=>some k
 | _=>none
def QL (P:Program) (s d:TypeId) (v:Value):Option Value:=match v with
 | .int k (.ofNat n)=>orElse (iB (P.underlying s).isSome (bO (WZ P d) fun k'=>okI k' n) none) (mU P s d (.int k (.ofNat n)))
 | v=>mU P s d v
theorem QK (P:Program) (s d:TypeId) (v:Value):QL P s d v=mU P s d v:=by
 unfold QL
 split
 ·rename_i k n
  refine vy (fun v h=>?_) rfl
  obtain⟨h0,h⟩:=cA h
  unfold WZ at h
  split at h
  ·rename_i k' hd
   obtain⟨h1,rfl⟩:=im h
   rw[show(Int.ofNat n)=(n:Int) from rfl,jN h0 hd,nz h1]
  ·cases h
 ·rfl
def QJ (s d:TypeId) (x:Operand):fE:=fun E _ fr h=>bO (cL x fr) fun v=>okV h (QL E.P s d v)
def ju (o:Op):fE:=fun E _ fr h=>iop E.P fr o h
def Mu (fn:Fn) (first cap:Array Operand):fE:=fun _ _ fr h=>bO (zb first.toList fr) fun a=>bO (zb cap.toList fr) fun b=>match fn with
 | .func f=>some (.func (.func f) ⟨a⟩ ⟨b⟩,h)
 | _=>none
def sX (P:Program) (h:IH) (t:TypeId) (l c:Value):Option (Value×IH):=bO (B6 P t) fun e=>bO (iq l aI) fun l=>bO (iq c aI) fun c=>bO (aJ P e) fun n=>bO (gM P e) fun by_=>bO (aB P e) fun z =>
 iB (Nat.ble l c) (iB (Nat.ble (Nat.mul c (Nat.succ by_)) aI) (iB (Nat.beq (zx z) n) (nN h (Jv c z) n l (Nat.succ (Nat.mul 2 c))) none) none) none
theorem AK (P:Program) (h:IH) (t:TypeId) (l c:Value):sX P h t l c=makeSlice P h t l c:=by
 unfold sX makeSlice B6
 cases P.underlying t with
 | none=>rfl
 | some d =>
  cases d with
  | slice e =>
   simp only[aW]
   cases iq l aI with
   | none=>rfl
   | some l =>
    cases iq c aI with
    | none=>rfl
    | some c =>
     cases aJ P e with
     | none=>rfl
     | some n =>
      cases gM P e with
      | none=>rfl
      | some b =>
       cases aB P e with
       | none=>rfl
       | some z =>
        simp only[aW,mG,yV,jX,dW,kJ]
        show(bif Nat.ble l c then (bif Nat.ble (c*(b+1)) aI then (bif Nat.beq z.length n then _ else none) else none) else none)=_
        cases Nat.ble l c<;>cases Nat.ble (c*(b+1)) aI<;>cases Nat.beq z.length n<;>rfl
  | _=>rfl
def HR (t:TypeId) (l c:Operand):fE:=fun E _ fr h=>bO (cL l fr) fun l=>bO (cL c fr) fun c=>sX E.P h t l c
def Sc (fr:Fr) (o:Option Operand):Option (Option Value):=Option.rec (motive:=fun _=>Option (Option Value)) (some none) (fun x=>bO (cL x fr) fun v=>some (some v)) o
theorem Sa (fr:Fr) (o:Option Operand):Sc fr o=cY fr o:=by
 cases o with
 | none=>rfl
 | some x =>
  show bO (cL x fr) (fun v=>some (some v))=(opd fr x).map some
  rw[cu]
  cases opd fr x<;>rfl
def UR (t:TypeId) (x:Operand) (lo hi mx:Option Operand):fE:=fun E _ fr h=>bO (cL x fr) fun x=>bO (Sc fr lo) fun lo=>bO (Sc fr hi) fun hi=>bO (Sc fr mx) fun mx=>bO (cy E.P h t x lo hi mx) fun v=>some (Ii v,h)
def addrOf (v:Value) (k:Nat→Nat→Option (Value×IH)):Option (Value×IH):=match v with
 | .pointer (some ⟨b,o,none⟩)=>k b o
 | _=>none
theorem Nr (v:Value) (k:Nat→Nat→Option (Value×IH)):addrOf v k=bO (asAddr v) fun a=>k a.1 a.2:=by
 unfold addrOf asAddr
 split
 ·rfl
 ·rename_i hv
  split
  ·exact absurd rfl (hv _ _)
  ·rfl
def Ik (t:TypeId) (x:Operand) (f:Nat):fE:=fun E _ fr h=>bO (cL x fr) fun x=>bO (fl E.P t f) fun f=>bO (aJ E.P f.type) fun n=>addrOf x fun b o=>iB (Nat.beq n 0) none (fN (Nat.add o f.offset) fun o=>some (.pointer (some ⟨b,o,none⟩),h))
def VH (t:TypeId) (x:Operand) (f:Nat):fE:=fun E _ fr h=>bO (cL x fr) fun x=>bO (fl E.P t f) fun f=>match x with
 | .agg cs=>okV h (JL E.P f.type cs.toList f.offset)
 | _=>none
def eaT (P:Program) (t:TypeId):Option (Option Nat×Nat):=match P.underlying t with
 | some (.array n e)=>(aJ P e).map fun s=>(some n,s)
 | some (.slice e)=>(aJ P e).map fun s=>(none,s)
 | _=>none
def tc (P:Program) (t:TypeId) (x i:Value):Option Value:=match x,i with
 | .slice (some ⟨b,o,none⟩) n c,.int k (.ofNat j)=>bO (eaT P t) fun e=>Option.rec (motive:=fun _=>Option Value) (iB (Nat.ble (Nat.succ j) n) (fN (Nat.add o (Nat.mul j e.2)) fun o=>some (.pointer (some ⟨b,o,none⟩))) none) (fun _=>indexAddr P t (.slice (some ⟨b,o,none⟩) n c) (.int k (.ofNat j))) e.1
 | .pointer (some ⟨b,o,none⟩),.int k (.ofNat j)=>bO (eaT P t) fun e=>Option.rec (motive:=fun _=>Option Value) (indexAddr P t (.pointer (some ⟨b,o,none⟩)) (.int k (.ofNat j))) (fun n=>iB (Nat.ble (Nat.succ j) n) (fN (Nat.add o (Nat.mul j e.2)) fun o=>some (.pointer (some ⟨b,o,none⟩))) none) e.1
 | x,i=>indexAddr P t x i
theorem AM (P:Program) (t:TypeId) (x i:Value):tc P t x i=indexAddr P t x i:=by
 unfold tc
 split
 ·rename_i b o n c k j
  unfold eaT indexAddr
  cases hu:P.underlying t with
  | none=>rfl
  | some d =>
   cases d with
   | array n e =>
    simp only[]
    cases aJ P e<;>rfl
   | slice e =>
    simp only[idxOf]
    cases aJ P e with
    | none=>rfl
    | some s =>
     simp only[Option.map_some,aW,dW,dN];rfl
   | _=>rfl
 ·rename_i b o k j
  unfold eaT indexAddr
  cases hu:P.underlying t with
  | none=>rfl
  | some d =>
   cases d with
   | array n e =>
    simp only[idxOf]
    cases aJ P e with
    | none=>rfl
    | some s =>
     simp only[Option.map_some,aW,dW,dN];rfl
   | slice e =>
    simp only[]
    cases aJ P e<;>rfl
   | _=>rfl
 ·rfl
def HU (t:TypeId) (x i:Operand):fE:=fun E _ fr h=>bO (cL x fr) fun x=>bO (cL i fr) fun i=>okV h (tc E.P t x i)
def J7 (P:Program) (h:IH) (t:TypeId) (x i:Value):Option (Value×IH):=match x with
 | .agg cs=>match P.underlying t,idxOf i with
   | some (.array n e),some (.ofNat j)=>bif Nat.blt j n then match aJ P e with
     | some size=>okV h (JL P e cs.toList (Nat.mul j size))
     | none=>none
    else none
   | _,_=>none
 | .string s=>bif plain i then (cE P (Instr.index t (.string s) i)).map (·,h) else none
 | _=>none
def Vg (t:TypeId) (x i:Operand):fE:=fun E _ fr h=>bO (cL x fr) fun x=>bO (cL i fr) fun i=>J7 E.P h t x i
def So (t:TypeId) (m k:Operand) (ok:Bool):fE:=fun E _ fr h=>bO (cL m fr) fun m=>bO (cL k fr) fun k=>okV h (lookup E.P h t m k ok)
def zq (t:TypeId) (m k v:Operand):fE:=fun E _ fr h=>bO (cL m fr) fun m=>bO (cL k fr) fun k=>bO (cL v fr) fun v=>okH (mapUpdate E.P h t m k v)
def Qc (x:Operand) (i:Nat):fE:=fun _ _ fr h=>bO (cL x fr) fun v=>match v with
 | .tuple vs=>okV h (Pg i vs.toList)
 | _=>none
def DD (h:IH) (size n:Nat) (x:Value):Option (List Value):=match x with
 | .slice none _ _=>some []
 | .slice (some ⟨b,o,none⟩) len _=>iB (Nat.ble n len) (fN (Nat.mul n size) fun m=>iB (Nat.beq m 0) (some []) (rdN h b o m)) none
 | _=>none
theorem B0 (h:IH) (size n:Nat) (x:Value):DD h size n x=bN h size n x:=by
 unfold DD bN
 split
 ·rfl
 ·rename_i b o len c
  simp only[dN,dW,kJ]
  show(bif Nat.ble n len then (bif Nat.beq (n*size) 0 then some [] else rdN h b o (n*size)) else none)=bif Nat.ble n len then (bif Nat.beq (n*size) 0 then some [] else h.rd b o (n*size)) else none
  cases hz:Nat.beq (n*size) 0 with
  | true=>rfl
  | false=>rw[ON h b o (n*size) (fun e=>by rw[e] at hz;cases hz)]
 ·rename_i h1 h2
  split
  ·exact absurd rfl (h1 _ _)
  ·exact absurd rfl (h2 _ _ _ _)
  ·rfl
def twF (b:Nat) (l:List Nat):List Nat:=List.rec (motive:=fun _=>List Nat) [] (fun a _ ih=>iB (Nat.beq a b) [] (a :: ih)) l
theorem N2 (b:Nat) : ∀l:List Nat,twF b l=l.takeWhile (· != b)
 | []=>rfl
 | a :: l=>by
  show iB (Nat.beq a b) [] (a :: twF b l)=_
  rw[N2 b l,List.takeWhile_cons,bne,kJ]
  cases Nat.beq a b<;>rfl
def dwF (b:Nat) (l:List Nat):List Nat:=List.rec (motive:=fun _=>List Nat) [] (fun a l ih=>iB (Nat.beq a b) l ih) l
theorem Qk (b:Nat) : ∀l:List Nat,dwF b l=(l.dropWhile (· != b)).drop 1
 | []=>rfl
 | a :: l=>by
  show iB (Nat.beq a b) l (dwF b l)=_
  rw[Qk b l,List.dropWhile_cons,bne,kJ]
  cases Nat.beq a b<;>rfl
def J3 (l:List Nat) (e:Tr bR):Tr bR:=List.rec (motive:=fun _=>Tr bR→Tr bR) (fun e=>e) (fun k _ ih e=>lM .dead e k ih) l e
theorem FV : ∀(l:List Nat) (e:Tr bR),J3 l e=IH.cU e l
 | [],_=>rfl
 | k :: l,e=>by
  show lM .dead e k (J3 l)=_
  rw[kf,FV l];rfl
def Ig (h:IH) (k f:Nat) (cs:List Value) (t:Nat) (cg below:List Nat) (cs':List Value) (t' len:Nat):Option (Value×IH):=IH.rec (motive:=fun _=>Option (Value×IH)) (fun base n ext bQ =>
 vK cs' fun cs'=>fN n fun n=>lM (.cells cs t (some f)) (J3 cg ext) k fun e=>lM (.cells cs' t' (some f)) e n fun e=>lM (n :: k :: below) bQ f fun fa=>fN (Nat.mul 2 n) fun b=>fN (Nat.mul 2 len) fun c=>some (.slice (some ⟨b,0,none⟩) len c,⟨base,Nat.succ n,e,fa⟩)) h
theorem MJ (h:IH) (k f:Nat) (cs:List Value) (t:Nat) (cg below:List Nat) (cs':List Value) (t' len:Nat):Ig h k f cs t cg below cs' t' len=some (.slice (some ⟨2*h.n,0,none⟩) len (2*len),grown h k f cs t cg below cs' t'):=by
 obtain⟨base,n,ext,bQ⟩:=h
 show(vK cs' fun cs'=>fN n fun n=>lM (.cells cs t (some f)) (J3 cg ext) k fun e=>lM (.cells cs' t' (some f)) e n fun e=>lM (n :: k :: below) bQ f fun fa=>fN (Nat.mul 2 n) fun b=>fN (Nat.mul 2 len) fun c=>some (Value.slice (some ⟨b,0,none⟩) len c,(⟨base,Nat.succ n,e,fa⟩:IH)))=_
 rw[oe,dN,kf,kf,kf,dN,dN,FV];rfl
def Wb (h:IH) (size bytes n:Nat) (new:List Value) (s:Value):Option (Value×IH):=match s with
 | .slice none a c=>iB (Nat.beq a 0) (iB (Nat.beq c 0) (iB (Nat.ble (Nat.mul n (Nat.succ bytes)) aI) (nN h new size n (Nat.mul 2 n)) none) none) none
 | .slice (some ⟨b,o,none⟩) len k =>
  iB (Nat.ble (Nat.mul (Nat.add len n) (Nat.succ bytes)) aI)
   (fN (Nat.add len n) fun m=>iB (Nat.ble m (Nat.div k 2)) (bO (wrF h b (Nat.add o (Nat.mul len size)) new) fun h=>some (.slice (some ⟨b,o,none⟩) m k,h))
    (iB (Nat.beq (Nat.mod k 2) 1) (bO (DD h size len (.slice (some ⟨b,o,none⟩) len k)) fun old=>nN h (xL old new) size m (Nat.mul 2 m))
     (iB (Nat.beq len (Nat.div k 2)) (iB (Nat.ble 1 len) (iB (Nat.beq (Nat.mod b 2) 0) (fN (Nat.div b 2) fun b2=>bO (tG h.ext b2) fun ob=>match ob with
      | .cells cs t fam=>iB (Nat.beq (Nat.add o (Nat.mul len size)) (zx cs)) (iB (Nat.beq t size) (match fam with
        | none=>Ig h b2 h.n cs t [] [] (xL (B7 o cs) new) size m
        | some f=>bO (tG h.bQ f) fun stk=>Ig h b2 f cs t (twF b2 stk) (dwF b2 stk) (xL (B7 o cs) new) size m) none) none
      | _=>none) none) none) none)))
   none
 | _=>none
def DW (P:Program) (h:IH) (st:TypeId) (s x:Value):Option (Value×IH) :=
 bO (B6 P st) fun e=>bO (aJ P e) fun size=>bO (gM P e) fun bytes=>bO (aB P e) fun zs=>bO (lenOf x) fun n=>fN n fun n =>
  iB (Nat.beq n 0) (match s with|.slice none a c=>bif a == 0 && c == 0 then some (s,h) else none|.slice (some ⟨_,_,none⟩) _ _=>some (s,h)|_=>none)
   (iB (Nat.beq size 0) none (iB (Nat.ble bytes 65536) (iB (Nat.beq (zx zs) size) (bO (DD h size n x) fun new=>iB (Tj QR new) (Wb h size bytes n new s) none) none) none))
theorem Tg (h:IH) (size bytes n:Nat) (new:List Value) (s:Value):Wb h size bytes n new s=match s with
    | .slice none a c=>bif a == 0 && c == 0 && Nat.ble (n*(bytes+1)) aI then some (.slice (some ⟨2*h.n,0,none⟩) n (2*n),h.new (.cells new size none)) else none
    | .slice (some ⟨b,o,none⟩) len k =>
     bif !(Nat.ble ((len+n)*(bytes+1)) aI) then none else
     bif Nat.ble (len+n) (k / 2) then (h.wr b (o+len*size) new).map fun h=>(.slice (some ⟨b,o,none⟩) (len+n) k,h)
     else bif k % 2 == 1 then
      match bN h size len s with
      | none=>none
      | some old=>some (.slice (some ⟨2*h.n,0,none⟩) (len+n) (2*(len+n)),h.new (.cells (old ++ new) size none))
     else bif len == k / 2 && Nat.blt 0 len && b % 2 == 0 then
      match h.ext.get (b / 2) with
      | some (.cells cs t fam) =>
       bif o+len*size == cs.length && t == size then
        match fam with
        | none=>some (.slice (some ⟨2*h.n,0,none⟩) (len+n) (2*(len+n)),grown h (b / 2) h.n cs t [] [] (cs.drop o ++ new) size)
        | some f=>match h.bQ.get f with
         | none=>none
         | some stk=>some (.slice (some ⟨2*h.n,0,none⟩) (len+n) (2*(len+n)),
           grown h (b / 2) f cs t (stk.takeWhile (· != b / 2)) ((stk.dropWhile (· != b / 2)).drop 1) (cs.drop o ++ new) size)
       else none
      | _=>none
     else none
    | _=>none:=by
 unfold Wb
 split
 ·rename_i a c
  simp only[dW,mG,kJ]
  show(bif Nat.beq a 0 then (bif Nat.beq c 0 then (bif Nat.ble (n*(bytes+1)) aI then _ else none) else none) else none)=_
  cases Nat.beq a 0<;>cases Nat.beq c 0<;>cases Nat.ble (n*(bytes+1)) aI<;>rfl
 ·rename_i b o len k
  simp only[dW,dN,mG,kJ,ND,B0,yj,lO,jX,MJ,qB,N2,Qk]
  show(bif Nat.ble ((len+n)*(bytes+1)) aI then (bif Nat.ble (len+n) (k / 2) then (bO (h.wr b (o+len*size) new) fun h=>some (Value.slice (some ⟨b,o,none⟩) (len+n) k,h)) else (bif Nat.beq (k % 2) 1 then (bO (bN h size len (.slice (some ⟨b,o,none⟩) len k)) fun old=>some (Value.slice (some ⟨2*h.n,0,none⟩) (len+n) (2*(len+n)),h.new (.cells (old ++ new) size none))) else
   (bif Nat.beq len (k / 2) then (bif Nat.blt 0 len then (bif Nat.beq (b % 2) 0 then (bO (h.ext.get (b / 2)) fun ob=>match ob with
      | .cells cs t fam=>bif Nat.beq (o+len*size) cs.length then (bif Nat.beq t size then (match fam with
        | none=>some (Value.slice (some ⟨2*h.n,0,none⟩) (len+n) (2*(len+n)),grown h (b / 2) h.n cs t [] [] (cs.drop o ++ new) size)
        | some f=>bO (h.bQ.get f) fun stk=>some (Value.slice (some ⟨2*h.n,0,none⟩) (len+n) (2*(len+n)),grown h (b / 2) f cs t (stk.takeWhile (· != b / 2)) ((stk.dropWhile (· != b / 2)).drop 1) (cs.drop o ++ new) size)) else none) else none
      | _=>none) else none) else none) else none))) else none)=_
  cases Nat.ble ((len+n)*(bytes+1)) aI with
  | false=>rfl
  | true =>
   simp only[cond_true,Bool.not_true,cond_false]
   cases Nat.ble (len+n) (k / 2) with
   | true =>
    simp only[cond_true]
    cases h.wr b (o+len*size) new<;>rfl
   | false =>
    simp only[cond_false]
    cases Nat.beq (k % 2) 1 with
    | true =>
     simp only[cond_true]
     cases bN h size len (.slice (some ⟨b,o,none⟩) len k)<;>rfl
    | false =>
     simp only[cond_false]
     cases Nat.beq len (k / 2) with
     | false=>rfl
     | true =>
      cases Nat.blt 0 len with
      | false=>rfl
      | true =>
       cases Nat.beq (b % 2) 0 with
       | false=>rfl
       | true =>
        simp only[cond_true,Bool.and_true]
        cases h.ext.get (b / 2) with
        | none=>rfl
        | some ob =>
         cases ob with
         | cells cs t fam =>
          simp only[aW]
          cases Nat.beq (o+len*size) cs.length with
          | false=>rfl
          | true =>
           cases Nat.beq t size with
           | false=>rfl
           | true =>
            cases fam with
            | none=>rfl
            | some f =>
             simp only[cond_true,Bool.and_true]
             cases h.bQ.get f<;>rfl
         | _=>rfl
 ·rfl
theorem IG (P:Program) (h:IH) (st:TypeId) (s x:Value):DW P h st s x=append P h st s x:=by
 unfold DW append B6
 cases hu:P.underlying st with
 | none=>rfl
 | some d =>
  cases d with
  | slice e =>
   simp only[aW]
   cases aJ P e with
   | none=>rfl
   | some size =>
    cases gM P e with
    | none=>rfl
    | some bytes =>
     cases aB P e with
     | none=>rfl
     | some zs =>
      cases lenOf x with
      | none=>rfl
      | some n =>
       simp only[aW,dN,dW,kJ,jX,B0,DY,Gw,Tg]
       cases Nat.beq n 0 with
       | true=>rfl
       | false =>
        cases Nat.beq size 0 with
        | true=>rfl
        | false =>
         cases Nat.ble bytes 65536 with
         | false=>rfl
         | true =>
          cases Nat.beq zs.length size with
          | false=>rfl
          | true =>
           simp only[cond_true,cond_false,Bool.not_true,Bool.or_false]
           cases bN h size n x with
           | none=>rfl
           | some new =>
            simp only[aW]
            cases new.all aH<;>rfl
  | _=>rfl
def Ai (P:Program) (h:IH) (b:Builtin) (ts:Array TypeId) (args:List Value):Option (Value×IH):=match b,args with
 | .append,[s,x]=>iB (cM P ts[1]?) (bO ts[0]? fun st=>DW P h st s x) (builtin P h .append ts [s,x])
 | b,args=>builtin P h b ts args
theorem GB (P:Program) (h:IH) (b:Builtin) (ts:Array TypeId) (args:List Value):Ai P h b ts args=builtin P h b ts args:=by
 unfold Ai
 split
 ·rename_i s x
  rw[dW]
  have e:builtin P h .append ts [s,x]=bif cM P ts[1]? then (match ts[0]? with|some st=>append P h st s x|none=>none) else bif Dp P ts[1]? then (match ts[0]? with|some st=>mW P h st s x|none=>none) else none:=rfl
  cases hs:cM P ts[1]? with
  | false=>rfl
  | true =>
   rw[e,hs]
   cases ts[0]? with
   | none=>rfl
   | some st=>exact IG P h st s x
 ·rfl
def DN (c:Call):fE:=fun E call fr h=>match c.callee with
 | .value f=>bO (cL f fr) fun fv=>bO (zb c.args.toList fr) fun vs=>call fv vs h
 | .builtin b=>bO (zb c.args.toList fr) fun vs=>Ai E.P h b c.argTypes vs
 | .invoke _ _=>none
def UU (o:Op):fE:=Op.rec (motive:=fun _=>fE) TQ TQ WD Wd boxF V0 GC zq Sq Od (fun a=>ju (.ready a)) (fun a=>ju (.waits a)) Mn V7 Wu QJ
 (fun a b=>ju (.sliceToArrayPointer a b)) (fun a b=>ju (.makeInterface a b)) Mu (fun a b=>ju (.makeMap a b)) (fun a b=>ju (.makeChan a b)) HR UR Ik VH HU Vg So zq
 (fun a b c=>ju (.mapEntry a b c)) (fun a b c d=>ju (.entryStore a b c d)) (fun a b=>ju (.range a b)) (fun a b=>ju (.next a b)) (fun a=>ju (.entry a)) (fun a b c d=>ju (.typeAssert a b c d)) Qc DN
 (fun a=>ju (.go a)) (fun a=>ju (.defer a)) (fun a=>ju (.panic a)) (fun a b=>ju (.send a b)) (fun a b c=>ju (.recv a b c)) (fun a b=>ju (.select a b)) o
theorem Jq (o:Op) (E:Env) (call:bd) (fr:Fr) (h:IH):UU o E call fr h=cV E call fr o h:=by
 cases o
 case move x=>show okV h (cL x fr)=_;rw[jG,cu];rfl
 case assign x=>show okV h (cL x fr)=_;rw[jG,cu];rfl
 case pick c a b =>
  show bO (cL c fr) _=match opd fr c with|some (.bool true)=>(opd fr a).map (·,h)|some (.bool false)=>(opd fr b).map (·,h)|_=>none
  simp only[cu,jG]
  cases opd fr c with
  | none=>rfl
  | some v =>
   cases v with
   | bool t=>cases t<;>rfl
   | _=>rfl
 case alloc t =>
  show bO (aB E.P t) _=(aB E.P t).map _
  simp only[BZ]
  cases aB E.P t<;>rfl
 case box t x =>
  show bO (cL x fr) _=(opd fr x).map _
  simp only[oe,BZ,vV,cu]
  cases opd fr x<;>rfl
 case build t ps =>
  show bO (aB E.P t) _=match aB E.P t,partsOf fr ps.toList with|some z,some ps=>(bif bU E.P t then (cj (placeOf E.P t) z ps).map fun cs=>(Value.agg cs.toArray,h) else none)|_,_=>none
  simp only[vx,zU,dW]
  cases aB E.P t with
  | none=>rfl
  | some z =>
   cases partsOf fr ps.toList with
   | none=>rfl
   | some l =>
    simp only[aW]
    cases bU E.P t with
    | false=>rfl
    | true =>
     simp only[cond_true]
     cases cj (placeOf E.P t) z l<;>rfl
 case buildSlice t len ps =>
  show bO (y4 ps.toList fr) _=match partsOf fr ps.toList with|some ps=>buildSlice E.P h t len ps|none=>none
  simp only[vx,zU,mG,jX,dW,yV]
  cases partsOf fr ps.toList with
  | none=>rfl
  | some l =>
   simp only[aW]
   unfold buildSlice B6
   cases E.P.underlying t with
   | none=>rfl
   | some d =>
    cases d with
    | slice e =>
     simp only[aW]
     cases aJ E.P e with
     | none=>rfl
     | some n =>
      cases aB E.P e with
      | none=>rfl
      | some z =>
       simp only[aW,kJ]
       show(bif Nat.ble (len*n) iZ then (bif Nat.beq z.length n then (bO (cj (fun i=>some (i*n,n)) (bS len z) l) fun cells=>some (Value.slice (some ⟨2*h.n,0,none⟩) len (2*len+1),h.new (.cells cells n none))) else none) else none)=_
       cases Nat.ble (len*n) iZ<;>cases Nat.beq z.length n<;>first|rfl|skip
       simp only[cond_true,Bool.and_true]
       cases cj (fun i=>some (i*n,n)) (bS len z) l<;>rfl
    | _=>rfl
 case load t a =>
  show bO (cL a fr) _=match opd fr a with|some a=>(load E.P h t a).map (·,h)|none=>none
  simp only[cu,jG,FN]
  cases opd fr a<;>rfl
 case store t a x =>
  show bO (cL a fr) _=match opd fr a,opd fr x with|some a,some v=>(store E.P h t a v).map (undef,·)|_,_=>none
  simp only[cu,HG,Lk]
  cases opd fr a<;>cases opd fr x<;>rfl
 case nilCheck x =>
  show bO (cL x fr) _=_
  rw[cu]
  simp only[cV,iop]
  cases opd fr x with
  | none=>rfl
  | some v =>
   cases v with
   | pointer a=>cases a<;>rfl
   | func f a b=>cases f<;>rfl
   | _=>rfl
 case binOp op t x y s =>
  show bO (cL x fr) _=match opd fr x,opd fr y with|some a,some b=>(binop E.P op t x y a b).map (·,h)|_,_=>none
  simp only[cu,jG,Ng]
  cases opd fr x<;>cases opd fr y<;>rfl
 case unOp op t x =>
  show bO (cL x fr) _=match opd fr x with|some v=>(bif plain v then (cE E.P (Op.unary op v)).map (·,h) else none)|none=>none
  simp only[cu,jG,UE]
  cases opd fr x with
  | none=>rfl
  | some v =>
   simp only[aW]
   cases plain v<;>rfl
 case convert s d x =>
  show bO (cL x fr) _=match opd fr x with|some v=>(bif plain v then (cE E.P (Go.convert s d v)).map (·,h) else none)|none=>none
  simp only[cu,jG,QK,mU]
  cases opd fr x with
  | none=>rfl
  | some v =>
   simp only[aW]
   cases plain v<;>rfl
 case makeFunc fn a b =>
  show bO (zb a.toList fr) _=match gh fr a.toList,gh fr b.toList with|some a,some b=>(match fn with|.func f=>some (Value.func (.func f) a.toArray b.toArray,h)|_=>none)|_,_=>none
  simp only[za]
  cases gh fr a.toList<;>cases gh fr b.toList<;>first|rfl|(cases fn<;>rfl)
 case makeSlice t l c =>
  show bO (cL l fr) _=match opd fr l,opd fr c with|some l,some c=>makeSlice E.P h t l c|_,_=>none
  simp only[cu,AK]
  cases opd fr l<;>cases opd fr c<;>rfl
 case slice t x lo hi mx =>
  show bO (cL x fr) _=match opd fr x,cY fr lo,cY fr hi,cY fr mx with|some x,some lo,some hi,some mx=>(cy E.P h t x lo hi mx).map (·,h)|_,_,_,_=>none
  simp only[cu,Sa,MK]
  cases opd fr x<;>cases cY fr lo<;>cases cY fr hi<;>cases cY fr mx<;>first|rfl|skip
  simp only[aW]
  rename_i x lo hi mx
  cases cy E.P h t x lo hi mx<;>rfl
 case fieldAddr t x f =>
  show bO (cL x fr) _=match opd fr x,fl E.P t f with|some x,some f=>(match asAddr x,aJ E.P f.type with|some (b,o),some n=>(bif n == 0 then none else some (ptr b (o+f.offset),h))|_,_=>none)|_,_=>none
  simp only[cu,Nr,dW,dN,kJ]
  cases opd fr x with
  | none=>rfl
  | some v =>
   cases fl E.P t f with
   | none=>rfl
   | some fd =>
    simp only[aW]
    cases aJ E.P fd.type with
    | none=>cases asAddr v<;>rfl
    | some n =>
     cases asAddr v with
     | none=>rfl
     | some a=>rfl
 case field t x f =>
  show bO (cL x fr) _=_
  simp only[cu,jG,Fk,cV,iop]
  cases opd fr x with
  | none=>rfl
  | some v =>
   cases fl E.P t f with
   | none=>cases v<;>rfl
   | some fd=>cases v<;>rfl
 case indexAddr t x i =>
  show bO (cL x fr) _=match opd fr x,opd fr i with|some x,some i=>(indexAddr E.P t x i).map (·,h)|_,_=>none
  simp only[cu,jG,AM]
  cases opd fr x<;>cases opd fr i<;>rfl
 case index t x i =>
  show bO (cL x fr) _=_
  simp only[cu,cV,iop,J7,jG]
  cases opd fr x with
  | none=>rfl
  | some v =>
   cases opd fr i with
   | none=>cases v<;>rfl
   | some j =>
    cases v with
    | agg cs =>
     simp only[aW]
     split
     ·rename_i hu hj
      rw[hu,hj]
      simp only
      split
      ·rename_i hs;rw[hs,Fk];rfl
      ·rename_i hs;rw[hs]
     ·rename_i hn
      split
      ·rename_i hu hj;exact absurd hj (hn _ _ _ hu)
      ·rfl
    | _=>rfl
 case lookup t m k ok =>
  show bO (cL m fr) _=match opd fr m,opd fr k with|some m,some k=>(lookup E.P h t m k ok).map (·,h)|_,_=>none
  simp only[cu,jG]
  cases opd fr m<;>cases opd fr k<;>rfl
 case mapUpdate t m k v =>
  show bO (cL m fr) _=match opd fr m,opd fr k,opd fr v with|some m,some k,some v=>(mapUpdate E.P h t m k v).map (undef,·)|_,_,_=>none
  simp only[cu,HG]
  cases opd fr m<;>cases opd fr k<;>cases opd fr v<;>rfl
 case insert t m k v =>
  show bO (cL m fr) _=match opd fr m,opd fr k,opd fr v with|some m,some k,some v=>(mapUpdate E.P h t m k v).map (undef,·)|_,_,_=>none
  simp only[cu,HG]
  cases opd fr m<;>cases opd fr k<;>cases opd fr v<;>rfl
 case extract x i =>
  show bO (cL x fr) _=_
  simp only[cu,jG,Db,cV,iop]
  cases opd fr x with
  | none=>rfl
  | some v =>
   cases v with
   | tuple vs=>simp only[aW,Array.getElem?_toList]
   | _=>rfl
 case call c =>
  show DN c E call fr h=_
  unfold DN
  simp only[cu,za,GB,cV,iop]
  cases c.callee with
  | value f=>simp only;cases opd fr f<;>cases gh fr c.args.toList<;>rfl
  | builtin b=>simp only;cases gh fr c.args.toList<;>rfl
  | invoke _ _=>rfl
 all_goals rfl
end
end Go.Id
