/-
  The ideal machine written for the kernel, second part: operations.
-/
import Derived.Test.YtnnmjocmapilaaaGreatOutlierValidAz
set_option linter.unusedVariables false
set_option linter.unusedSimpArgs false
set_option linter.defProp false
set_option linter.deprecated false
namespace Go.Id
open Go
noncomputable section
abbrev fH:=Env→a8→Fr→IH→Option (Value×IH)
def okV (h:IH) (o:Option Value):Option (Value×IH):=bO o fun v=>some (v,h)
theorem jG (h:IH) (o:Option Value):okV h o=o.map (·,h):=by cases o<;>rfl
def okH (o:Option IH):Option (Value×IH):=bO o fun h=>some (undef,h)
theorem ID (o:Option IH):okH o=o.map (undef,·):=by cases o<;>rfl
def Jg (v:Value):Value:=match v with
 | .slice (some ⟨b,o,none⟩) n c=>fN b fun b=>fN o fun o=>fN n fun n=>fN c fun c=>.slice (some ⟨b,o,none⟩) n c
 | v=>v
theorem N2 (v:Value):Jg v=v:=by
 unfold Jg
 split
 ·simp only[dO]
 ·rfl
def zC (l:List (Nat×Operand)) (fr:Fr):Option (List (Nat×Value)):=List.rec (motive:=fun _=>Option (List (Nat×Value))) (some []) (fun p _ ih=>bO (cL p.2 fr) fun v=>bO ih fun vs=>some ((p.1,v) :: vs)) l
theorem v9 : ∀(l:List (Nat×Operand)) (fr:Fr),zC l fr=partsOf fr l
 | [],_=>rfl
 | (i,x) :: l,fr=>by
  show bO (cL x fr) (fun v=>bO (zC l fr) fun vs=>some ((i,v) :: vs))=_
  rw[ck,v9 l fr,partsOf]
  cases opd fr x<;>cases partsOf fr l<;>rfl
def LD (place:Nat→Option (Nat×Nat)) (l:List (Nat×Value)) (cells:List Value):Option (List Value):=List.rec (motive:=fun _=>List Value→Option (List Value)) (fun c=>some c) (fun p _ ih cells=>bO (place p.1) fun q=>iB (Nat.beq (zW (pn p.2)) q.2) (bO (ur q.1 (pn p.2) cells) ih) none) l cells
theorem Ak (place:Nat→Option (Nat×Nat)) : ∀(l:List (Nat×Value)) (cells:List Value),LD place l cells=cd place cells l
 | [],_=>rfl
 | (i,v) :: l,cells=>by
  show bO (place i) (fun q=>iB (Nat.beq (zW (pn v)) q.2) (bO (ur q.1 (pn v) cells) (LD place l)) none)=_
  rw[cd]
  cases hp:place i with
  | none=>rfl
  | some q =>
   obtain⟨o,n⟩:=q
   simp only[aW,wL,j4,oM,kP,Array.length_toList]
   cases hn:Nat.beq v.cells.size n with
   | false=>rfl
   | true =>
    have hn:=Nat.beq_eq.mp hn
    subst hn
    simp only[yy,Bool.true_and]
    cases Nat.ble (o+v.cells.size) cells.length with
    | false=>rfl
    | true=>exact Ak place l _
def KJ (P:Program) (t:TypeId) (l:List Value) (off:Nat):Option Value:=bO (bj P t) fun g=>iB g (bO (aK P t) fun n=>wG (UM n (Cs off l)) fun cs=>some (.agg ⟨cs⟩)) (Qk off l)
theorem FV (P:Program) (t:TypeId) (cs:Array Value) (off:Nat):KJ P t cs.toList off=partOf P t cs off:=by
 unfold KJ partOf
 cases bj P t with
 | none=>cases aK P t<;>rfl
 | some g =>
  cases g with
  | false =>
   simp only[aW,qP,DC]
   exact Array.getElem?_toList
  | true =>
   simp only[aW,yy]
   cases aK P t with
   | none=>rfl
   | some n =>
    simp only[aW,oj,Fe,qW]
    refine congrArg (fun a=>some (Value.agg a)) ?_
    apply Array.ext'
    simp[Array.toList_extract]
def Vb (x:Operand):fH:=fun _ _ fr h=>okV h (cL x fr)
def YE (c a b:Operand):fH:=fun _ _ fr h=>bO (cL c fr) fun v=>match v with
 | .bool t=>iB t (okV h (cL a fr)) (okV h (cL b fr))
 | _=>none
def DY (h:IH) (o:bz):Option (Value×IH):=Nu h o fun n h=>fN (Nat.mul 2 n) fun b=>some (.pointer (some ⟨b,0,none⟩),h)
theorem Ck (h:IH) (o:bz):DY h o=some (ptr (2*h.n) 0,h.new o):=by
 unfold DY
 rw[yq,dO];rfl
def XN (t:TypeId):fH:=fun E _ _ h=>bO (aC E.P t) fun z=>DY h (.cells z 0 none)
def boxF (_:TypeId) (x:Operand):fH:=fun _ _ fr h=>bO (cL x fr) fun v=>wG (pn v) fun cs=>DY h (.cells cs 0 none)
def XA (t:TypeId) (parts:Array (Nat×Operand)):fH:=fun E _ fr h=>bO (aC E.P t) fun z=>bO (zC parts.toList fr) fun ps=>iB (cu E.P t) (bO (LD (placeOf E.P t) ps z) fun cs=>some (.agg ⟨cs⟩,h)) none
def Cr (P:Program) (t:TypeId):Option TypeId:=match P.underlying t with
 | some (.slice e)=>some e
 | _=>none
def nN (h:IH) (cells:List Value) (n len c:Nat):Option (Value×IH):=wG cells fun cells=>Nu h (.cells cells n none) fun k h=>fN (Nat.mul 2 k) fun b=>fN c fun c=>some (.slice (some ⟨b,0,none⟩) len c,h)
theorem mH (h:IH) (cells:List Value) (n len c:Nat):nN h cells n len c=some (.slice (some ⟨2*h.n,0,none⟩) len c,h.new (.cells cells n none)):=by
 unfold nN
 rw[oj,yq,dO,dO];rfl
def Hl (t:TypeId) (len:Nat) (parts:Array (Nat×Operand)):fH:=fun E _ fr h=>bO (zC parts.toList fr) fun ps=>bO (Cr E.P t) fun e=>bO (aK E.P e) fun n=>bO (aC E.P e) fun z =>
 iB (Nat.ble (Nat.mul len n) jd) (iB (Nat.beq (zW z) n) (bO (LD (fun i=>some (Nat.mul i n,n)) ps (Kv len z)) fun cells=>nN h cells n len (Nat.succ (Nat.mul 2 len))) none) none
def TG (t:TypeId) (a:Operand):fH:=fun E _ fr h=>bO (cL a fr) fun a=>okV h (KZ E.P h t a)
def Pk (t:TypeId) (a x:Operand):fH:=fun E _ fr h=>bO (cL a fr) fun a=>bO (cL x fr) fun v=>okH (HR E.P h t a v)
def Nt (x:Operand):fH:=fun _ _ fr h=>bO (cL x fr) fun v=>match v with
 | .pointer (some a)=>some (.pointer (some a),h)
 | .func (.func f) xs ys=>some (.func (.func f) xs ys,h)
 | .func (.yield f) xs ys=>some (.func (.yield f) xs ys,h)
 | .map r=>some (.map r,h)
 | _=>none
def XH (op:BinOp) (t:TypeId) (x y:Operand) (_:TypeId):fH:=fun E _ fr h=>bO (cL x fr) fun a=>bO (cL y fr) fun b=>okV h (JI E.P op t x y a b)
def unF (P:Program) (op:UnOp) (v:Value):Option Value:=match op,v with
 | .not,.bool b=>some (.bool (not b))
 | op,v=>bif plain v then cw P (Op.unary op v) else none
theorem VY (P:Program) (op:UnOp) (v:Value):unF P op v=bif plain v then cw P (Op.unary op v) else none:=by
 unfold unF
 split
 ·rename_i b;exact(vO P b).symm
 ·rfl
def Yg (op:UnOp) (_:TypeId) (x:Operand):fH:=fun E _ fr h=>bO (cL x fr) fun v=>okV h (unF E.P op v)
def Zb (P:Program) (t:TypeId):Option IntKind:=match P.underlying t with
 | some (.int k)=>some k
 | _=>none
def RO (P:Program) (s d:TypeId) (v:Value):Option Value:=match v with
 | .int k (.ofNat n)=>orElse (iB (P.underlying s).isSome (bO (Zb P d) fun k'=>okI k' n) none) (mZ P s d (.int k (.ofNat n)))
 | v=>mZ P s d v
theorem RN (P:Program) (s d:TypeId) (v:Value):RO P s d v=mZ P s d v:=by
 unfold RO
 split
 ·rename_i k n
  refine we (fun v h=>?_) rfl
  obtain⟨h0,h⟩:=cq h
  unfold Zb at h
  split at h
  ·rename_i k' hd
   obtain⟨h1,rfl⟩:=iA h
   rw[show(Int.ofNat n)=(n:Int) from rfl,jP h0 hd,nG h1]
  ·cases h
 ·rfl
def RM (s d:TypeId) (x:Operand):fH:=fun E _ fr h=>bO (cL x fr) fun v=>okV h (RO E.P s d v)
def jv (o:Op):fH:=fun E _ fr h=>iop E.P fr o h
def NB (fn:Fn) (first cap:Array Operand):fH:=fun _ _ fr h=>bO (zI first.toList fr) fun a=>bO (zI cap.toList fr) fun b=>match fn with
 | .func f=>some (.func (.func f) ⟨a⟩ ⟨b⟩,h)
 | _=>none
def tE (P:Program) (h:IH) (t:TypeId) (l c:Value):Option (Value×IH):=bO (Cr P t) fun e=>bO (iC l aN) fun l=>bO (iC c aN) fun c=>bO (aK P e) fun n=>bO (gP P e) fun by_=>bO (aC P e) fun z =>
 iB (Nat.ble l c) (iB (Nat.ble (Nat.mul c (Nat.succ by_)) aN) (iB (Nat.beq (zW z) n) (nN h (Kv c z) n l (Nat.succ (Nat.mul 2 c))) none) none) none
theorem A8 (P:Program) (h:IH) (t:TypeId) (l c:Value):tE P h t l c=makeSlice P h t l c:=by
 unfold tE makeSlice Cr
 cases P.underlying t with
 | none=>rfl
 | some d =>
  cases d with
  | slice e =>
   simp only[aW]
   cases iC l aN with
   | none=>rfl
   | some l =>
    cases iC c aN with
    | none=>rfl
    | some c =>
     cases aK P e with
     | none=>rfl
     | some n =>
      cases gP P e with
      | none=>rfl
      | some b =>
       cases aC P e with
       | none=>rfl
       | some z =>
        simp only[aW,mH,zr,j4,eh,kP]
        show(bif Nat.ble l c then (bif Nat.ble (c*(b+1)) aN then (bif Nat.beq z.length n then _ else none) else none) else none)=_
        cases Nat.ble l c<;>cases Nat.ble (c*(b+1)) aN<;>cases Nat.beq z.length n<;>rfl
  | _=>rfl
def IW (t:TypeId) (l c:Operand):fH:=fun E _ fr h=>bO (cL l fr) fun l=>bO (cL c fr) fun c=>tE E.P h t l c
def Ts (fr:Fr) (o:Option Operand):Option (Option Value):=Option.rec (motive:=fun _=>Option (Option Value)) (some none) (fun x=>bO (cL x fr) fun v=>some (some v)) o
theorem Tq (fr:Fr) (o:Option Operand):Ts fr o=cX fr o:=by
 cases o with
 | none=>rfl
 | some x =>
  show bO (cL x fr) (fun v=>some (some v))=(opd fr x).map some
  rw[ck]
  cases opd fr x<;>rfl
def Wg (t:TypeId) (x:Operand) (lo hi mx:Option Operand):fH:=fun E _ fr h=>bO (cL x fr) fun x=>bO (Ts fr lo) fun lo=>bO (Ts fr hi) fun hi=>bO (Ts fr mx) fun mx=>bO (cJ E.P h t x lo hi mx) fun v=>some (Jg v,h)
def addrOf (v:Value) (k:Nat→Nat→Option (Value×IH)):Option (Value×IH):=match v with
 | .pointer (some ⟨b,o,none⟩)=>k b o
 | _=>none
theorem OK (v:Value) (k:Nat→Nat→Option (Value×IH)):addrOf v k=bO (asAddr v) fun a=>k a.1 a.2:=by
 unfold addrOf asAddr
 split
 ·rfl
 ·rename_i hv
  split
  ·exact absurd rfl (hv _ _)
  ·rfl
def Jn (t:TypeId) (x:Operand) (f:Nat):fH:=fun E _ fr h=>bO (cL x fr) fun x=>bO (fu E.P t f) fun f=>bO (aK E.P f.type) fun n=>addrOf x fun b o=>iB (Nat.beq n 0) none (fN (Nat.add o f.offset) fun o=>some (.pointer (some ⟨b,o,none⟩),h))
def Xg (t:TypeId) (x:Operand) (f:Nat):fH:=fun E _ fr h=>bO (cL x fr) fun x=>bO (fu E.P t f) fun f=>match x with
 | .agg cs=>okV h (KJ E.P f.type cs.toList f.offset)
 | _=>none
def eaT (P:Program) (t:TypeId):Option (Option Nat×Nat):=match P.underlying t with
 | some (.array n e)=>(aK P e).map fun s=>(some n,s)
 | some (.slice e)=>(aK P e).map fun s=>(none,s)
 | _=>none
def tJ (P:Program) (t:TypeId) (x i:Value):Option Value:=match x,i with
 | .slice (some ⟨b,o,none⟩) n c,.int k (.ofNat j)=>bO (eaT P t) fun e=>Option.rec (motive:=fun _=>Option Value) (iB (Nat.ble (Nat.succ j) n) (fN (Nat.add o (Nat.mul j e.2)) fun o=>some (.pointer (some ⟨b,o,none⟩))) none) (fun _=>indexAddr P t (.slice (some ⟨b,o,none⟩) n c) (.int k (.ofNat j))) e.1
 | .pointer (some ⟨b,o,none⟩),.int k (.ofNat j)=>bO (eaT P t) fun e=>Option.rec (motive:=fun _=>Option Value) (indexAddr P t (.pointer (some ⟨b,o,none⟩)) (.int k (.ofNat j))) (fun n=>iB (Nat.ble (Nat.succ j) n) (fN (Nat.add o (Nat.mul j e.2)) fun o=>some (.pointer (some ⟨b,o,none⟩))) none) e.1
 | x,i=>indexAddr P t x i
theorem Bb (P:Program) (t:TypeId) (x i:Value):tJ P t x i=indexAddr P t x i:=by
 unfold tJ
 split
 ·rename_i b o n c k j
  unfold eaT indexAddr
  cases hu:P.underlying t with
  | none=>rfl
  | some d =>
   cases d with
   | array n e =>
    simp only[]
    cases aK P e<;>rfl
   | slice e =>
    simp only[idxOf]
    cases aK P e with
    | none=>rfl
    | some s =>
     simp only[Option.map_some,aW,eh,dO];rfl
   | _=>rfl
 ·rename_i b o k j
  unfold eaT indexAddr
  cases hu:P.underlying t with
  | none=>rfl
  | some d =>
   cases d with
   | array n e =>
    simp only[idxOf]
    cases aK P e with
    | none=>rfl
    | some s =>
     simp only[Option.map_some,aW,eh,dO];rfl
   | slice e =>
    simp only[]
    cases aK P e<;>rfl
   | _=>rfl
 ·rfl
def I2 (t:TypeId) (x i:Operand):fH:=fun E _ fr h=>bO (cL x fr) fun x=>bO (cL i fr) fun i=>okV h (tJ E.P t x i)
def Lm (P:Program) (h:IH) (t:TypeId) (x i:Value):Option (Value×IH):=match x with
 | .agg cs=>match P.underlying t,idxOf i with
   | some (.array n e),some (.ofNat j)=>bif Nat.blt j n then match aK P e with
     | some size=>okV h (KJ P e cs.toList (Nat.mul j size))
     | none=>none
    else none
   | _,_=>none
 | .string s=>bif plain i then (cw P (Instr.index t (.string s) i)).map (·,h) else none
 | _=>none
def WG (t:TypeId) (x i:Operand):fH:=fun E _ fr h=>bO (cL x fr) fun x=>bO (cL i fr) fun i=>Lm E.P h t x i
def TF (t:TypeId) (m k:Operand) (ok:Bool):fH:=fun E _ fr h=>bO (cL m fr) fun m=>bO (cL k fr) fun k=>okV h (lookup E.P h t m k ok)
def zR (t:TypeId) (m k v:Operand):fH:=fun E _ fr h=>bO (cL m fr) fun m=>bO (cL k fr) fun k=>bO (cL v fr) fun v=>okH (mapUpdate E.P h t m k v)
def Rd (x:Operand) (i:Nat):fH:=fun _ _ fr h=>bO (cL x fr) fun v=>match v with
 | .tuple vs=>okV h (Qk i vs.toList)
 | _=>none
def D3 (h:IH) (size n:Nat) (x:Value):Option (List Value):=match x with
 | .slice none _ _=>some []
 | .slice (some ⟨b,o,none⟩) len _=>iB (Nat.ble n len) (fN (Nat.mul n size) fun m=>iB (Nat.beq m 0) (some []) (rdN h b o m)) none
 | _=>none
theorem Cn (h:IH) (size n:Nat) (x:Value):D3 h size n x=bL h size n x:=by
 unfold D3 bL
 split
 ·rfl
 ·rename_i b o len c
  simp only[dO,eh,kP]
  show(bif Nat.ble n len then (bif Nat.beq (n*size) 0 then some [] else rdN h b o (n*size)) else none)=bif Nat.ble n len then (bif Nat.beq (n*size) 0 then some [] else h.rd b o (n*size)) else none
  cases hz:Nat.beq (n*size) 0 with
  | true=>rfl
  | false=>rw[PU h b o (n*size) (fun e=>by rw[e] at hz;cases hz)]
 ·rename_i h1 h2
  split
  ·exact absurd rfl (h1 _ _)
  ·exact absurd rfl (h2 _ _ _ _)
  ·rfl
def twF (b:Nat) (l:List Nat):List Nat:=List.rec (motive:=fun _=>List Nat) [] (fun a _ ih=>iB (Nat.beq a b) [] (a :: ih)) l
theorem Pg (b:Nat) : ∀l:List Nat,twF b l=l.takeWhile (· != b)
 | []=>rfl
 | a :: l=>by
  show iB (Nat.beq a b) [] (a :: twF b l)=_
  rw[Pg b l,List.takeWhile_cons,bne,kP]
  cases Nat.beq a b<;>rfl
def dwF (b:Nat) (l:List Nat):List Nat:=List.rec (motive:=fun _=>List Nat) [] (fun a l ih=>iB (Nat.beq a b) l ih) l
theorem Rl (b:Nat) : ∀l:List Nat,dwF b l=(l.dropWhile (· != b)).drop 1
 | []=>rfl
 | a :: l=>by
  show iB (Nat.beq a b) l (dwF b l)=_
  rw[Rl b l,List.dropWhile_cons,bne,kP]
  cases Nat.beq a b<;>rfl
def Lc (l:List Nat) (e:Tr bz):Tr bz:=List.rec (motive:=fun _=>Tr bz→Tr bz) (fun e=>e) (fun k _ ih e=>lT .dead e k ih) l e
theorem GJ : ∀(l:List Nat) (e:Tr bz),Lc l e=IH.dJ e l
 | [],_=>rfl
 | k :: l,e=>by
  show lT .dead e k (Lc l)=_
  rw[kB,GJ l];rfl
def Je (h:IH) (k f:Nat) (cs:List Value) (t:Nat) (bX below:List Nat) (cs':List Value) (t' len:Nat):Option (Value×IH):=IH.rec (motive:=fun _=>Option (Value×IH)) (fun base n ext bT =>
 wG cs' fun cs'=>fN n fun n=>lT (.cells cs t (some f)) (Lc bX ext) k fun e=>lT (.cells cs' t' (some f)) e n fun e=>lT (n :: k :: below) bT f fun fa=>fN (Nat.mul 2 n) fun b=>fN (Nat.mul 2 len) fun c=>some (.slice (some ⟨b,0,none⟩) len c,⟨base,Nat.succ n,e,fa⟩)) h
theorem NX (h:IH) (k f:Nat) (cs:List Value) (t:Nat) (bX below:List Nat) (cs':List Value) (t' len:Nat):Je h k f cs t bX below cs' t' len=some (.slice (some ⟨2*h.n,0,none⟩) len (2*len),grown h k f cs t bX below cs' t'):=by
 obtain⟨base,n,ext,bT⟩:=h
 show(wG cs' fun cs'=>fN n fun n=>lT (.cells cs t (some f)) (Lc bX ext) k fun e=>lT (.cells cs' t' (some f)) e n fun e=>lT (n :: k :: below) bT f fun fa=>fN (Nat.mul 2 n) fun b=>fN (Nat.mul 2 len) fun c=>some (Value.slice (some ⟨b,0,none⟩) len c,(⟨base,Nat.succ n,e,fa⟩:IH)))=_
 rw[oj,dO,kB,kB,kB,dO,dO,GJ];rfl
def XL (h:IH) (size bytes n:Nat) (new:List Value) (s:Value):Option (Value×IH):=match s with
 | .slice none a c=>iB (Nat.beq a 0) (iB (Nat.beq c 0) (iB (Nat.ble (Nat.mul n (Nat.succ bytes)) aN) (nN h new size n (Nat.mul 2 n)) none) none) none
 | .slice (some ⟨b,o,none⟩) len k =>
  iB (Nat.ble (Nat.mul (Nat.add len n) (Nat.succ bytes)) aN)
   (fN (Nat.add len n) fun m=>iB (Nat.ble m (Nat.div k 2)) (bO (wrF h b (Nat.add o (Nat.mul len size)) new) fun h=>some (.slice (some ⟨b,o,none⟩) m k,h))
    (iB (Nat.beq (Nat.mod k 2) 1) (bO (D3 h size len (.slice (some ⟨b,o,none⟩) len k)) fun old=>nN h (ya old new) size m (Nat.mul 2 m))
     (iB (Nat.beq len (Nat.div k 2)) (iB (Nat.ble 1 len) (iB (Nat.beq (Nat.mod b 2) 0) (fN (Nat.div b 2) fun b2=>bO (ug h.ext b2) fun ob=>match ob with
      | .cells cs t fam=>iB (Nat.beq (Nat.add o (Nat.mul len size)) (zW cs)) (iB (Nat.beq t size) (match fam with
        | none=>Je h b2 h.n cs t [] [] (ya (Cs o cs) new) size m
        | some f=>bO (ug h.bT f) fun stk=>Je h b2 f cs t (twF b2 stk) (dwF b2 stk) (ya (Cs o cs) new) size m) none) none
      | _=>none) none) none) none)))
   none
 | _=>none
def Es (P:Program) (h:IH) (st:TypeId) (s x:Value):Option (Value×IH) :=
 bO (Cr P st) fun e=>bO (aK P e) fun size=>bO (gP P e) fun bytes=>bO (aC P e) fun zs=>bO (lenOf x) fun n=>fN n fun n =>
  iB (Nat.beq n 0) (match s with|.slice none a c=>bif a == 0 && c == 0 then some (s,h) else none|.slice (some ⟨_,_,none⟩) _ _=>some (s,h)|_=>none)
   (iB (Nat.beq size 0) none (iB (Nat.ble bytes 65536) (iB (Nat.beq (zW zs) size) (bO (D3 h size n x) fun new=>iB (Uy RU new) (XL h size bytes n new s) none) none) none))
theorem Ux (h:IH) (size bytes n:Nat) (new:List Value) (s:Value):XL h size bytes n new s=match s with
    | .slice none a c=>bif a == 0 && c == 0 && Nat.ble (n*(bytes+1)) aN then some (.slice (some ⟨2*h.n,0,none⟩) n (2*n),h.new (.cells new size none)) else none
    | .slice (some ⟨b,o,none⟩) len k =>
     bif !(Nat.ble ((len+n)*(bytes+1)) aN) then none else
     bif Nat.ble (len+n) (k / 2) then (h.wr b (o+len*size) new).map fun h=>(.slice (some ⟨b,o,none⟩) (len+n) k,h)
     else bif k % 2 == 1 then
      match bL h size len s with
      | none=>none
      | some old=>some (.slice (some ⟨2*h.n,0,none⟩) (len+n) (2*(len+n)),h.new (.cells (old ++ new) size none))
     else bif len == k / 2 && Nat.blt 0 len && b % 2 == 0 then
      match h.ext.get (b / 2) with
      | some (.cells cs t fam) =>
       bif o+len*size == cs.length && t == size then
        match fam with
        | none=>some (.slice (some ⟨2*h.n,0,none⟩) (len+n) (2*(len+n)),grown h (b / 2) h.n cs t [] [] (cs.drop o ++ new) size)
        | some f=>match h.bT.get f with
         | none=>none
         | some stk=>some (.slice (some ⟨2*h.n,0,none⟩) (len+n) (2*(len+n)),
           grown h (b / 2) f cs t (stk.takeWhile (· != b / 2)) ((stk.dropWhile (· != b / 2)).drop 1) (cs.drop o ++ new) size)
       else none
      | _=>none
     else none
    | _=>none:=by
 unfold XL
 split
 ·rename_i a c
  simp only[eh,mH,kP]
  show(bif Nat.beq a 0 then (bif Nat.beq c 0 then (bif Nat.ble (n*(bytes+1)) aN then _ else none) else none) else none)=_
  cases Nat.beq a 0<;>cases Nat.beq c 0<;>cases Nat.ble (n*(bytes+1)) aN<;>rfl
 ·rename_i b o len k
  simp only[eh,dO,mH,kP,OW,Cn,yE,lU,j4,NX,qW,Pg,Rl]
  show(bif Nat.ble ((len+n)*(bytes+1)) aN then (bif Nat.ble (len+n) (k / 2) then (bO (h.wr b (o+len*size) new) fun h=>some (Value.slice (some ⟨b,o,none⟩) (len+n) k,h)) else (bif Nat.beq (k % 2) 1 then (bO (bL h size len (.slice (some ⟨b,o,none⟩) len k)) fun old=>some (Value.slice (some ⟨2*h.n,0,none⟩) (len+n) (2*(len+n)),h.new (.cells (old ++ new) size none))) else
   (bif Nat.beq len (k / 2) then (bif Nat.blt 0 len then (bif Nat.beq (b % 2) 0 then (bO (h.ext.get (b / 2)) fun ob=>match ob with
      | .cells cs t fam=>bif Nat.beq (o+len*size) cs.length then (bif Nat.beq t size then (match fam with
        | none=>some (Value.slice (some ⟨2*h.n,0,none⟩) (len+n) (2*(len+n)),grown h (b / 2) h.n cs t [] [] (cs.drop o ++ new) size)
        | some f=>bO (h.bT.get f) fun stk=>some (Value.slice (some ⟨2*h.n,0,none⟩) (len+n) (2*(len+n)),grown h (b / 2) f cs t (stk.takeWhile (· != b / 2)) ((stk.dropWhile (· != b / 2)).drop 1) (cs.drop o ++ new) size)) else none) else none
      | _=>none) else none) else none) else none))) else none)=_
  cases Nat.ble ((len+n)*(bytes+1)) aN with
  | false=>rfl
  | true =>
   simp only[cond_true,Bool.not_true,cond_false]
   cases Nat.ble (len+n) (k / 2) with
   | true =>
    simp only[cond_true]
    cases h.wr b (o+len*size) new<;>rfl
   | false =>
    simp only[cond_false]
    cases Nat.beq (k % 2) 1 with
    | true =>
     simp only[cond_true]
     cases bL h size len (.slice (some ⟨b,o,none⟩) len k)<;>rfl
    | false =>
     simp only[cond_false]
     cases Nat.beq len (k / 2) with
     | false=>rfl
     | true =>
      cases Nat.blt 0 len with
      | false=>rfl
      | true =>
       cases Nat.beq (b % 2) 0 with
       | false=>rfl
       | true =>
        simp only[cond_true,Bool.and_true]
        cases h.ext.get (b / 2) with
        | none=>rfl
        | some ob =>
         cases ob with
         | cells cs t fam =>
          simp only[aW]
          cases Nat.beq (o+len*size) cs.length with
          | false=>rfl
          | true =>
           cases Nat.beq t size with
           | false=>rfl
           | true =>
            cases fam with
            | none=>rfl
            | some f =>
             simp only[cond_true,Bool.and_true]
             cases h.bT.get f<;>rfl
         | _=>rfl
 ·rfl
theorem JL (P:Program) (h:IH) (st:TypeId) (s x:Value):Es P h st s x=append P h st s x:=by
 unfold Es append Cr
 cases hu:P.underlying st with
 | none=>rfl
 | some d =>
  cases d with
  | slice e =>
   simp only[aW]
   cases aK P e with
   | none=>rfl
   | some size =>
    cases gP P e with
    | none=>rfl
    | some bytes =>
     cases aC P e with
     | none=>rfl
     | some zs =>
      cases lenOf x with
      | none=>rfl
      | some n =>
       simp only[aW,dO,eh,kP,j4,Cn,Ev,Hg,Ux]
       cases Nat.beq n 0 with
       | true=>rfl
       | false =>
        cases Nat.beq size 0 with
        | true=>rfl
        | false =>
         cases Nat.ble bytes 65536 with
         | false=>rfl
         | true =>
          cases Nat.beq zs.length size with
          | false=>rfl
          | true =>
           simp only[cond_true,cond_false,Bool.not_true,Bool.or_false]
           cases bL h size n x with
           | none=>rfl
           | some new =>
            simp only[aW]
            cases new.all aA<;>rfl
  | _=>rfl
def AK (P:Program) (h:IH) (b:Builtin) (ts:Array TypeId) (args:List Value):Option (Value×IH):=match b,args with
 | .append,[s,x]=>iB (bZ P ts[1]?) (bO ts[0]? fun st=>Es P h st s x) (builtin P h .append ts [s,x])
 | b,args=>builtin P h b ts args
theorem Hk (P:Program) (h:IH) (b:Builtin) (ts:Array TypeId) (args:List Value):AK P h b ts args=builtin P h b ts args:=by
 unfold AK
 split
 ·rename_i s x
  rw[eh]
  have e:builtin P h .append ts [s,x]=bif bZ P ts[1]? then (match ts[0]? with|some st=>append P h st s x|none=>none) else bif DN P ts[1]? then (match ts[0]? with|some st=>nf P h st s x|none=>none) else none:=rfl
  cases hs:bZ P ts[1]? with
  | false=>rfl
  | true =>
   rw[e,hs]
   cases ts[0]? with
   | none=>rfl
   | some st=>exact JL P h st s x
 ·rfl
def Eg (c:Call):fH:=fun E call fr h=>match c.callee with
 | .value f=>bO (cL f fr) fun fv=>bO (zI c.args.toList fr) fun vs=>call fv vs h
 | .builtin b=>bO (zI c.args.toList fr) fun vs=>AK E.P h b c.argTypes vs
 | .invoke _ _=>none
def Wj (o:Op):fH:=Op.rec (motive:=fun _=>fH) Vb Vb YE XN boxF XA Hl zR TG Pk (fun a=>jv (.ready a)) (fun a=>jv (.waits a)) Nt XH Yg RM
 (fun a b=>jv (.sliceToArrayPointer a b)) (fun a b=>jv (.makeInterface a b)) NB (fun a b=>jv (.makeMap a b)) (fun a b=>jv (.makeChan a b)) IW Wg Jn Xg I2 WG TF zR
 (fun a b c=>jv (.mapEntry a b c)) (fun a b c d=>jv (.entryStore a b c d)) (fun a b=>jv (.range a b)) (fun a b=>jv (.next a b)) (fun a=>jv (.entry a)) (fun a b c d=>jv (.typeAssert a b c d)) Rd Eg
 (fun a=>jv (.go a)) (fun a=>jv (.defer a)) (fun a=>jv (.panic a)) (fun a b=>jv (.send a b)) (fun a b c=>jv (.recv a b c)) (fun a b=>jv (.select a b)) o
theorem Kn (o:Op) (E:Env) (call:a8) (fr:Fr) (h:IH):Wj o E call fr h=cU E call fr o h:=by
 cases o
 case move x=>show okV h (cL x fr)=_;rw[jG,ck];rfl
 case assign x=>show okV h (cL x fr)=_;rw[jG,ck];rfl
 case pick c a b =>
  show bO (cL c fr) _=match opd fr c with|some (.bool true)=>(opd fr a).map (·,h)|some (.bool false)=>(opd fr b).map (·,h)|_=>none
  simp only[ck,jG]
  cases opd fr c with
  | none=>rfl
  | some v =>
   cases v with
   | bool t=>cases t<;>rfl
   | _=>rfl
 case alloc t =>
  show bO (aC E.P t) _=(aC E.P t).map _
  simp only[Ck]
  cases aC E.P t<;>rfl
 case box t x =>
  show bO (cL x fr) _=(opd fr x).map _
  simp only[oj,Ck,wL,ck]
  cases opd fr x<;>rfl
 case build t ps =>
  show bO (aC E.P t) _=match aC E.P t,partsOf fr ps.toList with|some z,some ps=>(bif cu E.P t then (cd (placeOf E.P t) z ps).map fun cs=>(Value.agg cs.toArray,h) else none)|_,_=>none
  simp only[v9,Ak,eh]
  cases aC E.P t with
  | none=>rfl
  | some z =>
   cases partsOf fr ps.toList with
   | none=>rfl
   | some l =>
    simp only[aW]
    cases cu E.P t with
    | false=>rfl
    | true =>
     simp only[cond_true]
     cases cd (placeOf E.P t) z l<;>rfl
 case buildSlice t len ps =>
  show bO (zC ps.toList fr) _=match partsOf fr ps.toList with|some ps=>buildSlice E.P h t len ps|none=>none
  simp only[v9,Ak,mH,j4,eh,zr]
  cases partsOf fr ps.toList with
  | none=>rfl
  | some l =>
   simp only[aW]
   unfold buildSlice Cr
   cases E.P.underlying t with
   | none=>rfl
   | some d =>
    cases d with
    | slice e =>
     simp only[aW]
     cases aK E.P e with
     | none=>rfl
     | some n =>
      cases aC E.P e with
      | none=>rfl
      | some z =>
       simp only[aW,kP]
       show(bif Nat.ble (len*n) jd then (bif Nat.beq z.length n then (bO (cd (fun i=>some (i*n,n)) (bq len z) l) fun cells=>some (Value.slice (some ⟨2*h.n,0,none⟩) len (2*len+1),h.new (.cells cells n none))) else none) else none)=_
       cases Nat.ble (len*n) jd<;>cases Nat.beq z.length n<;>first|rfl|skip
       simp only[cond_true,Bool.and_true]
       cases cd (fun i=>some (i*n,n)) (bq len z) l<;>rfl
    | _=>rfl
 case load t a =>
  show bO (cL a fr) _=match opd fr a with|some a=>(load E.P h t a).map (·,h)|none=>none
  simp only[ck,jG,GC]
  cases opd fr a<;>rfl
 case store t a x =>
  show bO (cL a fr) _=match opd fr a,opd fr x with|some a,some v=>(store E.P h t a v).map (undef,·)|_,_=>none
  simp only[ck,ID,ME]
  cases opd fr a<;>cases opd fr x<;>rfl
 case nilCheck x =>
  show bO (cL x fr) _=_
  rw[ck]
  simp only[cU,iop]
  cases opd fr x with
  | none=>rfl
  | some v =>
   cases v with
   | pointer a=>cases a<;>rfl
   | func f a b=>cases f<;>rfl
   | _=>rfl
 case binOp op t x y s =>
  show bO (cL x fr) _=match opd fr x,opd fr y with|some a,some b=>(binop E.P op t x y a b).map (·,h)|_,_=>none
  simp only[ck,jG,Ow]
  cases opd fr x<;>cases opd fr y<;>rfl
 case unOp op t x =>
  show bO (cL x fr) _=match opd fr x with|some v=>(bif plain v then (cw E.P (Op.unary op v)).map (·,h) else none)|none=>none
  simp only[ck,jG,VY]
  cases opd fr x with
  | none=>rfl
  | some v =>
   simp only[aW]
   cases plain v<;>rfl
 case convert s d x =>
  show bO (cL x fr) _=match opd fr x with|some v=>(bif plain v then (cw E.P (Go.convert s d v)).map (·,h) else none)|none=>none
  simp only[ck,jG,RN,mZ]
  cases opd fr x with
  | none=>rfl
  | some v =>
   simp only[aW]
   cases plain v<;>rfl
 case makeFunc fn a b =>
  show bO (zI a.toList fr) _=match gA fr a.toList,gA fr b.toList with|some a,some b=>(match fn with|.func f=>some (Value.func (.func f) a.toArray b.toArray,h)|_=>none)|_,_=>none
  simp only[zH]
  cases gA fr a.toList<;>cases gA fr b.toList<;>first|rfl|(cases fn<;>rfl)
 case makeSlice t l c =>
  show bO (cL l fr) _=match opd fr l,opd fr c with|some l,some c=>makeSlice E.P h t l c|_,_=>none
  simp only[ck,A8]
  cases opd fr l<;>cases opd fr c<;>rfl
 case slice t x lo hi mx =>
  show bO (cL x fr) _=match opd fr x,cX fr lo,cX fr hi,cX fr mx with|some x,some lo,some hi,some mx=>(cJ E.P h t x lo hi mx).map (·,h)|_,_,_,_=>none
  simp only[ck,Tq,N2]
  cases opd fr x<;>cases cX fr lo<;>cases cX fr hi<;>cases cX fr mx<;>first|rfl|skip
  simp only[aW]
  rename_i x lo hi mx
  cases cJ E.P h t x lo hi mx<;>rfl
 case fieldAddr t x f =>
  show bO (cL x fr) _=match opd fr x,fu E.P t f with|some x,some f=>(match asAddr x,aK E.P f.type with|some (b,o),some n=>(bif n == 0 then none else some (ptr b (o+f.offset),h))|_,_=>none)|_,_=>none
  simp only[ck,OK,eh,dO,kP]
  cases opd fr x with
  | none=>rfl
  | some v =>
   cases fu E.P t f with
   | none=>rfl
   | some fd =>
    simp only[aW]
    cases aK E.P fd.type with
    | none=>cases asAddr v<;>rfl
    | some n =>
     cases asAddr v with
     | none=>rfl
     | some a=>rfl
 case field t x f =>
  show bO (cL x fr) _=_
  simp only[ck,jG,FV,cU,iop]
  cases opd fr x with
  | none=>rfl
  | some v =>
   cases fu E.P t f with
   | none=>cases v<;>rfl
   | some fd=>cases v<;>rfl
 case indexAddr t x i =>
  show bO (cL x fr) _=match opd fr x,opd fr i with|some x,some i=>(indexAddr E.P t x i).map (·,h)|_,_=>none
  simp only[ck,jG,Bb]
  cases opd fr x<;>cases opd fr i<;>rfl
 case index t x i =>
  show bO (cL x fr) _=_
  simp only[ck,cU,iop,Lm,jG]
  cases opd fr x with
  | none=>rfl
  | some v =>
   cases opd fr i with
   | none=>cases v<;>rfl
   | some j =>
    cases v with
    | agg cs =>
     simp only[aW]
     split
     ·rename_i hu hj
      rw[hu,hj]
      simp only
      split
      ·rename_i hs;rw[hs,FV];rfl
      ·rename_i hs;rw[hs]
     ·rename_i hn
      split
      ·rename_i hu hj;exact absurd hj (hn _ _ _ hu)
      ·rfl
    | _=>rfl
 case lookup t m k ok =>
  show bO (cL m fr) _=match opd fr m,opd fr k with|some m,some k=>(lookup E.P h t m k ok).map (·,h)|_,_=>none
  simp only[ck,jG]
  cases opd fr m<;>cases opd fr k<;>rfl
 case mapUpdate t m k v =>
  show bO (cL m fr) _=match opd fr m,opd fr k,opd fr v with|some m,some k,some v=>(mapUpdate E.P h t m k v).map (undef,·)|_,_,_=>none
  simp only[ck,ID]
  cases opd fr m<;>cases opd fr k<;>cases opd fr v<;>rfl
 case insert t m k v =>
  show bO (cL m fr) _=match opd fr m,opd fr k,opd fr v with|some m,some k,some v=>(mapUpdate E.P h t m k v).map (undef,·)|_,_,_=>none
  simp only[ck,ID]
  cases opd fr m<;>cases opd fr k<;>cases opd fr v<;>rfl
 case extract x i =>
  show bO (cL x fr) _=_
  simp only[ck,jG,DC,cU,iop]
  cases opd fr x with
  | none=>rfl
  | some v =>
   cases v with
   | tuple vs=>simp only[aW,Array.getElem?_toList]
   | _=>rfl
 case call c =>
  show Eg c E call fr h=_
  unfold Eg
  simp only[ck,zH,Hk,cU,iop]
  cases c.callee with
  | value f=>simp only;cases opd fr f<;>cases gA fr c.args.toList<;>rfl
  | builtin b=>simp only;cases gA fr c.args.toList<;>rfl
  | invoke _ _=>rfl
 all_goals rfl
end
end Go.Id
