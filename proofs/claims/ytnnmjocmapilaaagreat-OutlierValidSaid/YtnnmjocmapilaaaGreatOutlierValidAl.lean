/-
  Weakest preconditions over the ideal machine, second part: what the simplifier needs for o
-/
import Derived.Test.YtnnmjocmapilaaaGreatOutlierValidAk
import Derived.IntWalk
set_option linter.unusedVariables false
set_option linter.unusedSimpArgs false
set_option linter.defProp false
set_option linter.deprecated false
namespace Go.Id
open Go
@[simp] theorem Z3 (t:Nat):ab [] t=none:=rfl
@[simp] theorem oo (s:Nat) (v:Value) (r:Fr) (t:Nat):ab ((s,v) :: r) t=if s=t then some v else ab r t:=by
 simp[ab,cond_eq_ite]
@[simp] theorem KO (fr:Fr) (t:Nat):opd fr (.tmp t)=ab fr t:=rfl
@[simp] theorem Gb (fr:Fr) (f:FuncId):opd fr (.func f)=some (.func (.func f) #[] #[]):=rfl
theorem zJ (fr:Fr) (g:Nat) (h:g<4294967296):opd fr (.global g)=some (ptr (2*g+1) 0):=by
 have:Nat.blt g 4294967296=true:=by simp only[Nat.blt,Nat.ble_eq];exact h
 simp only[opd,this,cond_true];rfl
@[simp] theorem sK (fr:Fr) (k:IntKind) (n:Int):opd fr (.const (.int k n))=some (.int k n):=rfl
@[simp] theorem qG (fr:Fr) (b:Bool):opd fr (.const (.bool b))=some (.bool b):=rfl
@[simp] theorem nP (fr:Fr) (b:ByteArray):opd fr (.const (.string b))=some (.string b):=rfl
@[simp] theorem mM (fr:Fr):opd fr (.const .nilFunc)=some .nilFunc:=rfl
@[simp] theorem me (fr:Fr):opd fr (.const (.slice none 0 0))=some (.slice none 0 0):=rfl
@[simp] theorem nQ (fr:Fr):opd fr (.const (.pointer none))=some (.pointer none):=rfl
@[simp] theorem nR (fr:Fr):opd fr (.const (.map none))=some (.map none):=rfl
@[simp] theorem F9 (fr:Fr):gA fr []=some []:=rfl
@[simp] theorem BS (fr:Fr) (x:Operand) (l:List Operand):gA fr (x :: l)=(opd fr x).bind fun v=>(gA fr l).map (v :: ·):=by
 simp only[gA];cases opd fr x<;>cases gA fr l<;>rfl
@[simp] theorem xq (fr:Fr):partsOf fr []=some []:=rfl
@[simp] theorem uP (fr:Fr) (i:Nat) (x:Operand) (l:List (Nat×Operand)):partsOf fr ((i,x) :: l)=(opd fr x).bind fun v=>(partsOf fr l).map ((i,v) :: ·):=by
 simp only[partsOf];cases opd fr x<;>cases partsOf fr l<;>rfl
@[simp] theorem xu (fr:Fr):cX fr none=some none:=rfl
@[simp] theorem xr (fr:Fr) (x:Operand):cX fr (some x)=(opd fr x).map some:=rfl
@[simp] theorem xF (i:Nat):dD i [] = []:=rfl
@[simp] theorem vi (i:Nat) (v:Value) (l:List Value):dD i (v :: l)=(i,v) :: dD (i+1) l:=rfl
@[simp] theorem VQ (nt:Nat) (fr:Fr) (v:Value) (K:Fr→Prop):eF nt fr none v K=K fr:=rfl
@[simp] theorem HB (nt:Nat) (fr:Fr) (d:Nat) (v:Value) (K:Fr→Prop) (hd:d<nt):eF nt fr (some d) v K=K ((d,v) :: fr):=by
 have:Nat.blt d nt=true:=by simp only[Nat.blt,Nat.ble_eq];exact hd
 simp[eF,this]
@[congr] theorem UI {nt:Nat} {fr fr':Fr} {d:Option Tmp} {v v':Value} {K:Fr→Prop} (a:fr=fr') (b:v=v'):eF nt fr d v K=eF nt fr' d v' K:=by rw[a,b]
@[congr] theorem UJ {P:Program} {nt:Nat} {all l:List Oper} {fr fr':Fr} {h h':IH} {K:Fr→IH→Prop} (a:fr=fr') (b:h=h'):wpOps P nt all l fr h K=wpOps P nt all l fr' h' K:=by rw[a,b]
@[congr] theorem Ss {P:Program} {nt:Nat} {all l:List Oper} {fr fr':Fr} {h h':IH} {tr:List (Fr×IH)} {K:List (Fr×IH)→Prop} (a:fr=fr') (b:h=h'):cH P nt all l fr h tr K=cH P nt all l fr' h' tr K:=by rw[a,b]
@[congr] theorem VR {P:Program} {o:Op} {fr fr':Fr} {h h':IH} {K:Value→IH→Prop} (a:fr=fr') (b:h=h'):wpOp P o fr h K=wpOp P o fr' h' K:=by rw[a,b]
@[congr] theorem XZ {P:Program} {fn:FuncId} {nt:Nat} {rd:Option Nat} {c:Code} {fr fr':Fr} {h h':IH} {Q:bf→Fr→IH→Prop} (a:fr=fr') (b:h=h'):wpC P fn nt rd c fr h Q=wpC P fn nt rd c fr' h' Q:=by rw[a,b]
section
variable (P:Program) (fr:Fr) (h:IH) (K:Value→IH→Prop)
theorem Mr (c a b:Operand):wpOp P (.pick c a b) fr h K=Ex (opd fr c) fun c=>Ex (opd fr a) fun a=>Ex (opd fr b) fun b=>c=.bool true∧K a h∨c=.bool false∧K b h:=rfl
def fieldAt (P:Program) (t:TypeId) (f:Nat):Option Nat:=(fu P t f).bind fun d=>(aK P d.type).bind fun n=>if n=0 then none else some d.offset
theorem yL (t:TypeId) (x:Operand) (f:Nat):wpOp P (.fieldAddr t x f) fr h K=Ex (opd fr x) fun x=>Ex (asAddr x) fun a=>Ex (fieldAt P t f) fun off=>K (ptr a.1 (a.2+off)) h:=by
 simp only[wpOp,fieldAt,Ex,eq_iff_iff]
 constructor
 ·rintro⟨x,h1,d,h2,a,h3,n,h4,h5,k⟩
  exact⟨x,h1,a,h3,d.offset,by simp[h2,h4,h5],k⟩
 ·rintro⟨x,h1,a,h3,off,h2,k⟩
  cases hd:fu P t f with
  | none=>simp[hd] at h2
  | some d =>
   cases hn:aK P d.type with
   | none=>simp[hd,hn] at h2
   | some n =>
    simp only[hd,hn,Option.bind_some] at h2
    split at h2
    ·cases h2
    ·rename_i h0;cases h2;exact⟨x,h1,d,rfl,a,h3,n,hn,h0,k⟩
theorem UD {α β:Type} (o:Option α) (f:α→Option β) (K:β→Prop):Ex (o.bind f) K=Ex o fun v=>Ex (f v) K:=by cases o<;>simp[Ex]
theorem Mq (op:UnOp) (t:TypeId) (x:Operand):wpOp P (.unOp op t x) fr h K=Ex (opd fr x) fun v=>Ex (bif plain v then cw P (Op.unary op v) else none) fun v=>K v h:=by
 show Ex (iop P fr (.unOp op t x) h) _=_
 simp only[iop]
 cases opd fr x with
 | none=>simp
 | some v=>cases hp:plain v<;>simp[hp]
def mZ (P:Program) (s d:TypeId) (v:Value):Option Value:=bif plain v then cw P (Go.convert s d v) else none
theorem CW (s d:TypeId) (x:Operand):wpOp P (.convert s d x) fr h K=Ex (opd fr x) fun v=>Ex (mZ P s d v) fun v=>K v h:=by
 show Ex (iop P fr (.convert s d x) h) _=_
 simp only[iop,mZ]
 cases opd fr x with
 | none=>simp
 | some v=>cases hp:plain v<;>simp[hp]
theorem yK (t:TypeId) (l c:Operand):wpOp P (.makeSlice t l c) fr h K=Ex (opd fr l) fun l=>Ex (opd fr c) fun c=>Ex (makeSlice P h t l c) fun r=>K r.1 r.2:=by
 show Ex (iop P fr (.makeSlice t l c) h) _=_
 simp only[iop]
 cases opd fr l<;>cases opd fr c<;>simp
theorem xU (t:TypeId) (n:Nat) (ps:Array (Nat×Operand)):wpOp P (.buildSlice t n ps) fr h K=Ex (partsOf fr ps.toList) fun ps=>Ex (buildSlice P h t n ps) fun r=>K r.1 r.2:=by
 show Ex (iop P fr (.buildSlice t n ps) h) _=_
 simp only[iop]
 cases partsOf fr ps.toList<;>simp
theorem HE (t:TypeId) (x:Operand) (lo hi mx:Option Operand):wpOp P (.slice t x lo hi mx) fr h K=Ex (opd fr x) fun x=>Ex (cX fr lo) fun lo=>Ex (cX fr hi) fun hi=>Ex (cX fr mx) fun mx=>Ex (cJ P h t x lo hi mx) fun v=>K v h:=by
 show Ex (iop P fr (.slice t x lo hi mx) h) _=_
 simp only[iop]
 cases opd fr x with
 | none=>simp
 | some x=>cases cX fr lo with
  | none=>simp
  | some lo=>cases cX fr hi with
   | none=>simp
   | some hi=>cases cX fr mx<;>simp
def iS (P:Program) (t:TypeId) (ps:List (Nat×Value)):Option Value :=
 (aC P t).bind fun z=>bif cu P t then (cd (placeOf P t) z ps).map fun cs=>.agg cs.toArray else none
theorem HH (t:TypeId) (ps:Array (Nat×Operand)):wpOp P (.build t ps) fr h K=Ex (partsOf fr ps.toList) fun ps=>Ex (iS P t ps) fun v=>K v h:=by
 show Ex (iop P fr (.build t ps) h) _=_
 simp only[iop,iS]
 cases aC P t<;>cases partsOf fr ps.toList<;>cases cu P t<;>simp
def tP (P:Program) (t:TypeId) (f:Nat) (x:Value):Option Value :=
 match x with
 | .agg cs=>(fu P t f).bind fun d=>partOf P d.type cs d.offset
 | _=>none
theorem HG (t:TypeId) (x:Operand) (f:Nat):wpOp P (.field t x f) fr h K=Ex (opd fr x) fun x=>Ex (tP P t f x) fun v=>K v h:=by
 show Ex (iop P fr (.field t x f) h) _=_
 simp only[iop]
 cases hx:opd fr x with
 | none=>simp
 | some v =>
  cases v<;>(try (simp[tP];done))
  cases hf:fu P t f with
  | none=>simp[tP,hf]
  | some d=>simp[tP,hf]
theorem AX (x:Operand):wpOp P (.nilCheck x) fr h K=Ex (opd fr x) fun x=>match x with
  | .pointer (some a)=>K (.pointer (some a)) h
  | .func (.func f) xs ys=>K (.func (.func f) xs ys) h
  | .func (.yield f) xs ys=>K (.func (.yield f) xs ys) h
  | .map r=>K (.map r) h
  | _=>False:=by
 show Ex (iop P fr (.nilCheck x) h) _=_
 simp only[iop]
 cases hx:opd fr x with
 | none=>simp
 | some v =>
  cases v with
  | pointer a=>cases a<;>simp
  | func f xs ys=>cases f<;>simp
  | _=>simp
theorem EG (t:TypeId) (m k:Operand) (ok:Bool):wpOp P (.lookup t m k ok) fr h K=Ex (opd fr m) fun m=>Ex (opd fr k) fun k=>Ex (lookup P h t m k ok) fun v=>K v h:=by
 show Ex (iop P fr (.lookup t m k ok) h) _=_
 simp only[iop]
 cases opd fr m<;>cases opd fr k<;>simp
theorem pX (t:TypeId) (m k v:Operand):wpOp P (.mapUpdate t m k v) fr h K=Ex (opd fr m) fun m=>Ex (opd fr k) fun k=>Ex (opd fr v) fun v=>Ex (mapUpdate P h t m k v) fun h=>K undef h:=by
 show Ex (iop P fr (.mapUpdate t m k v) h) _=_
 simp only[iop]
 cases opd fr m<;>cases opd fr k<;>cases opd fr v<;>simp
theorem EI (t:TypeId) (m k v:Operand):wpOp P (.insert t m k v) fr h K=Ex (opd fr m) fun m=>Ex (opd fr k) fun k=>Ex (opd fr v) fun v=>Ex (mapUpdate P h t m k v) fun h=>K undef h:=pX P fr h K t m k v
theorem CV (t:TypeId):wpOp P (.makeMap t none) fr h K=K (.map (some (2*h.n))) (h.new (.map [])):=by
 show Ex (iop P fr (.makeMap t none) h) _=_
 simp[iop]
def tI (P:Program) (t:TypeId) (x i:Value):Option Value :=
 match x with
 | .agg cs=>match P.underlying t,idxOf i with
   | some (.array n e),some (.ofNat j)=>bif Nat.blt j n then (aK P e).bind fun size=>partOf P e cs (j*size) else none
   | _,_=>none
 | .string s=>bif plain i then cw P (Instr.index t (.string s) i) else none
 | _=>none
theorem HF (t:TypeId) (x i:Operand):wpOp P (.index t x i) fr h K=Ex (opd fr x) fun x=>Ex (opd fr i) fun i=>Ex (tI P t x i) fun v=>K v h:=by
 show Ex (iop P fr (.index t x i) h) _=_
 simp only[iop]
 cases hx:opd fr x with
 | none=>simp
 | some v =>
  cases hi:opd fr i with
  | none=>cases v<;>simp
  | some i =>
   cases v<;>(try (simp[tI];done))
   ·simp only[tI,Ey]
    cases hp:plain i<;>simp[]
   ·rename_i cs
    simp only[tI,Ey]
    cases hu:P.underlying t with
    | none=>simp
    | some d =>
     cases hi':idxOf i with
     | none=>cases d<;>simp
     | some z =>
      cases d<;>(try (simp;done))
      cases z with
      | negSucc z=>simp
      | ofNat j =>
       rename_i n e
       simp only
       cases hb:Nat.blt j n<;>simp
       cases aK P e<;>simp
end
section
variable (P:Program) (t:TypeId) (ox oy:Operand) (k:IntKind) (a b:Int)
theorem di {op:BinOp} {x y v:Value} (hx:plain x=true) (hy:plain y=true) (hv:plain v=true) (hr:aw P (do eqGuard op t ox oy x y;Go.binOp op t x y)=some v):binop P op t ox oy x y=some v:=by
 simp[binop,hx,hy,cw,hr,hv]
@[simp] theorem w6:binop P .add t ox oy (.int k a) (.int k b)=some (.int k (k.wrap (a+b))) :=
 di P t ox oy rfl rfl rfl (by simp[eqGuard,Go.binOp,Op.intArith];rfl)
@[simp] theorem wO:binop P .sub t ox oy (.int k a) (.int k b)=some (.int k (k.wrap (a - b))) :=
 di P t ox oy rfl rfl rfl (by simp[eqGuard,Go.binOp,Op.intArith];rfl)
@[simp] theorem wU:binop P .mul t ox oy (.int k a) (.int k b)=some (.int k (k.wrap (a*b))) :=
 di P t ox oy rfl rfl rfl (by simp[eqGuard,Go.binOp,Op.intArith];rfl)
@[simp] theorem wZ:binop P .eql t ox oy (.int k a) (.int k b)=some (.bool (a == b)) :=
 di P t ox oy rfl rfl rfl (by simp[eqGuard,Go.binOp,Op.intCmp];rfl)
@[simp] theorem wT:binop P .neq t ox oy (.int k a) (.int k b)=some (.bool (a != b)) :=
 di P t ox oy rfl rfl rfl (by simp[eqGuard,Go.binOp,Op.intCmp];rfl)
@[simp] theorem wV:binop P .lss t ox oy (.int k a) (.int k b)=some (.bool (decide (a<b))) :=
 di P t ox oy rfl rfl rfl (by simp[eqGuard,Go.binOp,Op.intCmp];rfl)
@[simp] theorem wW:binop P .leq t ox oy (.int k a) (.int k b)=some (.bool (decide (a≤b))) :=
 di P t ox oy rfl rfl rfl (by simp[eqGuard,Go.binOp,Op.intCmp];rfl)
@[simp] theorem wX:binop P .gtr t ox oy (.int k a) (.int k b)=some (.bool (decide (b<a))) :=
 di P t ox oy rfl rfl rfl (by simp[eqGuard,Go.binOp,Op.intCmp];rfl)
@[simp] theorem wY:binop P .geq t ox oy (.int k a) (.int k b)=some (.bool (decide (b≤a))) :=
 di P t ox oy rfl rfl rfl (by simp[eqGuard,Go.binOp,Op.intCmp];rfl)
end
@[simp] theorem aI (h:IH) (o:bz):(h.new o).n=h.n+1:=rfl
@[simp] theorem zO (h:IH) (o:bz):(h.new o).base=h.base:=rfl
@[simp] theorem YJ (h:IH) (o:bz):(h.new o).bT=h.bT:=rfl
theorem lu (h:IH) (o:bz) (k:Nat):(h.new o).ext.get k=if k=h.n then some o else h.ext.get k:=by simp[IH.new,Tr.bK]
def IH.put (h:IH) (k:Nat) (o:bz):IH:={ h with ext:=h.ext.set k o }
@[simp] theorem aH (h:IH) (k:Nat) (o:bz):(h.put k o).n=h.n:=rfl
@[simp] theorem zB (h:IH) (k:Nat) (o:bz):(h.put k o).base=h.base:=rfl
@[simp] theorem Yy (h:IH) (k:Nat) (o:bz):(h.put k o).bT=h.bT:=rfl
theorem iF (h:IH) (k:Nat) (o:bz) (j:Nat):(h.put k o).ext.get j=if j=k then some o else h.ext.get j:=by simp[IH.put,Tr.bK]
theorem ah (h:IH) (o:bz) {k:Nat} (hk:k=h.n):(h.new o).ext.get k=some o:=by rw[lu,if_pos hk]
theorem ax (h:IH) (o:bz) {k:Nat} (hk:k≠h.n):(h.new o).ext.get k=h.ext.get k:=by rw[lu,if_neg hk]
theorem ae (h:IH) (o:bz) {k j:Nat} (hk:j=k):(h.put k o).ext.get j=some o:=by rw[iF,if_pos hk]
theorem ak (h:IH) (o:bz) {k j:Nat} (hk:j≠k):(h.put k o).ext.get j=h.ext.get j:=by rw[iF,if_neg hk]
def IH.cells (h:IH) (k:Nat):Option (List Value):=match h.ext.get k with
 | some (.cells cs _ _)=>some cs
 | _=>none
theorem AE {h:IH} {k:Nat} {cs:List Value} {e:Nat} {f:Option Nat} (hk:h.ext.get k=some (.cells cs e f)):h.cells k=some cs:=by simp[IH.cells,hk]
theorem jl (h:IH) (k:Nat):h.row (2*k)=h.cells k:=by
 have h1:(2*k) % 2=0:=by omega
 have h2:2*k / 2=k:=by omega
 simp only[IH.row,h1,h2,IH.cells];rfl
theorem jk (h:IH) (cs:List Value) (e:Nat) (f:Option Nat) {b:Nat} (hb:b=2*h.n):(h.new (.cells cs e f)).row b=some cs:=by
 subst hb;rw[jl];simp[IH.cells,lu]
theorem xj (h:IH) (o:bz) {b:Nat} (hb:b≠2*h.n):(h.new o).row b=h.row b:=by
 simp only[IH.row,zO,lu,cond_eq_ite,beq_iff_eq]
 by_cases h1:b % 2=1
 ·simp[h1]
 ·rw[if_neg h1,if_neg h1,if_neg (by omega)]
theorem uE (h:IH) (cs:List Value) (e:Nat) (f:Option Nat) {b k:Nat} (hb:b=2*k):(h.put k (.cells cs e f)).row b=some cs:=by
 subst hb;rw[jl];simp[IH.cells,iF]
theorem qv (h:IH) (k:Nat) (o:bz) {b:Nat} (hb:b≠2*k):(h.put k o).row b=h.row b:=by
 simp only[IH.row,zB,iF,cond_eq_ite,beq_iff_eq]
 by_cases h1:b % 2=1
 ·simp[h1]
 ·rw[if_neg h1,if_neg h1,if_neg (by omega)]
structure Ext (h h':IH):Prop where
 n:h.n≤h'.n
 base:h'.base=h.base
 get : ∀k,k<h.n→h'.ext.get k=h.ext.get k
 bT : ∀f,f<h.n→h'.bT.get f=h.bT.get f
@[simp] theorem Ext.refl (h:IH):Ext h h:=⟨Nat.le_refl _,rfl,fun _ _=>rfl,fun _ _=>rfl⟩
theorem Ext.trans {a b c:IH} (h:Ext a b) (k:Ext b c):Ext a c :=
 ⟨Nat.le_trans h.n k.n,k.base.trans h.base,fun x hx=>(k.get x (Nat.lt_of_lt_of_le hx h.n)).trans (h.get x hx),fun x hx=>(k.bT x (Nat.lt_of_lt_of_le hx h.n)).trans (h.bT x hx)⟩
theorem Ext.new {a b:IH} (h:Ext a b) (o:bz):Ext a (b.new o) :=
 ⟨Nat.le_trans h.n (Nat.le_succ _),h.base,fun x hx=>by rw[lu,if_neg (by have:=h.n;omega)];exact h.get x hx,fun x hx=>h.bT x hx⟩
theorem Ext.put {a b:IH} (h:Ext a b) {k:Nat} (hk:a.n≤k) (o:bz):Ext a (b.put k o) :=
 ⟨h.n,h.base,fun x hx=>by rw[iF,if_neg (by omega)];exact h.get x hx,fun x hx=>h.bT x hx⟩
theorem Ext.row {a b:IH} (h:Ext a b) {x:Nat} (hx:x % 2=1∨x<2*a.n):b.row x=a.row x:=by
 simp only[IH.row,h.base,cond_eq_ite,beq_iff_eq]
 by_cases h1:x % 2=1
 ·rw[if_pos h1,if_pos h1]
 ·rw[if_neg h1,if_neg h1,h.get _ (by omega)]
def ld (h:IH) (b o:Nat):Option Value:=(h.row b).bind (·[o]?)
theorem Vj {h:IH} {b o:Nat} {cs:List Value} (hr:h.row b=some cs):ld h b o=cs[o]?:=by simp[ld,hr]
theorem cp {P:Program} {t:TypeId} (hT:bj P t=some false) (h:IH) (b o:Nat):load P h t (ptr b o)=ld h b o:=by
 simp only[load,asAddr,ptr,hT,IH.rd,ld]
 cases aK P t <;>
 (cases hr:h.row b with
  | none=>rfl
  | some cs =>
   simp only[Option.bind_some,cond_eq_ite,Nat.ble_eq]
   by_cases hl:o+1≤cs.length
   ·rw[if_pos hl]
    simp only[Option.bind_some]
    rw[List.head?_take,if_neg (by omega),List.head?_drop]
   ·rw[if_neg hl,List.getElem?_eq_none (by omega)];rfl)
theorem eP {P:Program} {t:TypeId} {n:Nat} (hT:bj P t=some true) (hn:aK P t=some n) (h:IH) (b o:Nat):load P h t (ptr b o)=(h.rd b o n).map fun cs=>.agg cs.toArray:=by
 simp only[load,asAddr,ptr,hT,hn]
@[simp] theorem AQ (b o:Nat):asAddr (ptr b o)=some (b,o):=rfl
theorem xn {h:IH} {b o n:Nat} {cs:List Value} (hr:h.row b=some cs):h.rd b o n=if o+n≤cs.length then some ((cs.drop o).take n) else none:=by
 simp[IH.rd,hr,cond_eq_ite]
@[simp] theorem CI (k:IntKind) (n:Int):(Value.int k n).cells = #[.int k n]:=rfl
@[simp] theorem AG (b:Bool):(Value.bool b).cells = #[.bool b]:=rfl
@[simp] theorem xN (a:Option Addr) (n c:Nat):(Value.slice a n c).cells = #[.slice a n c]:=rfl
@[simp] theorem CG (b o:Nat):(ptr b o).cells = #[ptr b o]:=rfl
@[simp] theorem CJ (cs:Array Value):(Value.agg cs).cells=cs:=rfl
@[simp] theorem AF (f:Fn) (a b:Array Value):(Value.func f a b).cells = #[.func f a b]:=rfl
@[simp] theorem sP:(Value.nilFunc).cells = #[.nilFunc]:=rfl
@[simp] theorem CH (r:Option Nat):(Value.map r).cells = #[.map r]:=rfl
@[simp] theorem vy:(Value.pointer none).cells = #[.pointer none]:=rfl
theorem OQ {P:Program} {f:FuncId} {fn:Func} {c:Code} {nt:Nat} {rs:List ResultVar} {first cap:Array Value} {vs:List Value} {h:IH} {K:Value→IH→Prop}
  (hf:P.funcs[f]?=some fn) (hb:fn.body=some c) (hn:fn.ntmps=nt) (hr:fn.results.toList=rs) (hl:(first.toList ++ (vs ++ cap.toList)).length≤nt)
  (w:wpC P f nt none c (dD 0 (first.toList ++ (vs ++ cap.toList))) h fun e fr h=>match e with
   | .exit _=>False
   | .normal=>Ex (bd P fr h rs) fun l=>K (single l) h
   | .ret=>Ex (bd P fr h rs) fun l=>K (single l) h):WV P (.func (.func f) first cap) vs h K:=by
 subst hn;subst hr
 obtain⟨⟨e,fr,h1⟩,⟨N,hN⟩,k⟩:=fw w
 have key : ∃l,bd P fr h1 fn.results.toList=some l∧K (single l) h1 ∧ ∀i,e≠.exit i:=by
  cases e with
  | exit i=>exact k.elim
  | normal=>obtain⟨l,a,b⟩:=k;exact⟨l,a,b,fun i hi=>by cases hi⟩
  | ret=>obtain⟨l,a,b⟩:=k;exact⟨l,a,b,fun i hi=>by cases hi⟩
 obtain⟨l,hl1,k,hne⟩:=key
 refine⟨(single l,h1),⟨N+1,fun n hn=>?_⟩,k⟩
 obtain⟨n,rfl⟩ : ∃m,n=m+1:=⟨n - 1,by omega⟩
 have h2:=hN n (by omega)
 simp only at h2
 have wD:Nat.ble (first.toList ++ (vs ++ cap.toList)).length fn.ntmps=true:=by simpa [Nat.ble_eq] using hl
 have hf':(E0 P).P.funcs[f]?=some fn:=hf
 simp only[bU,nD,show(E0 P).rZ f=none from rfl,hf',hb,wD,cond_true,h2]
 cases e with
 | exit i=>exact absurd rfl (hne i)
 | normal=>simp[E0,hl1]
 | ret=>simp[E0,hl1]
@[simp] theorem sG (P:Program) (fr:Fr) (h:IH):bd P fr h []=some []:=rfl
@[simp] theorem qz (P:Program) (fr:Fr) (h:IH) (r:ResultVar) (l:List ResultVar):bd P fr h (r :: l)=(gI P fr h r).bind fun v=>(bd P fr h l).map (v :: ·):=by
 simp only[bd];cases gI P fr h r<;>cases bd P fr h l<;>rfl
@[simp] theorem uG (P:Program) (fr:Fr) (h:IH) (t:Tmp):gI P fr h (.tmp t)=ab fr t:=rfl
@[simp] theorem sH (P:Program) (fr:Fr) (h:IH) (a:Tmp) (t:TypeId):gI P fr h (.cell a t)=(ab fr a).bind fun v=>load P h t v:=by
 simp only[gI];cases ab fr a<;>rfl
theorem Ye {P:Program} {fn:FuncId} {nt:Nat} {rd:Option Nat} {b:Code} {Q:bf→Fr→IH→Prop} (I:Nat→Fr→IH→Prop)
  (step : ∀m fr h,I m fr h→wpC P fn nt rd b fr h fun e fr' h'=>match e with
   | .normal => ∃m',m'<m∧I m' fr' h'
   | .exit i=>Q (.exit i) fr' h'
   | .ret=>Q .ret fr' h') {fr:Fr} {h:IH} {m:Nat} (start:I m fr h) (hm:qS b=none):xR P fn nt rd b fr h Q:=by
 have key : ∀m fr h,I m fr h → ∃r:bf×Fr×IH,(∃N,∀n,N≤n → ∀j,m+1≤j→mf (evC (E0 P) (bU (E0 P) n) fn nt rd n b) j fr h=some r)∧Q r.1 r.2.1 r.2.2:=by
  intro m
  induction m using Nat.strongRecOn with
  | _ m ih =>
   intro fr h hi
   obtain⟨⟨e,fr1,h1⟩,⟨N,hN⟩,k⟩:=fw (step m fr h hi)
   cases e with
   | normal =>
    obtain⟨m',hm,hi'⟩:=k
    obtain⟨r,⟨M,hM⟩,q⟩:=ih m' hm fr1 h1 hi'
    refine⟨r,⟨max N M,fun n hn j hj=>?_⟩,q⟩
    obtain⟨j,rfl⟩ : ∃i,j=i+1:=⟨j - 1,by omega⟩
    have e1:=hN n (Nat.le_trans (Nat.le_max_left _ _) hn)
    simp only at e1
    rw[mf,e1]
    exact hM n (Nat.le_trans (Nat.le_max_right _ _) hn) j (by omega)
   | exit i =>
    refine⟨(.exit i,fr1,h1),⟨N,fun n hn j hj=>?_⟩,k⟩
    obtain⟨j,rfl⟩ : ∃i,j=i+1:=⟨j - 1,by omega⟩
    have e1:=hN n hn
    simp only at e1
    rw[mf,e1]
   | ret =>
    refine⟨(.ret,fr1,h1),⟨N,fun n hn j hj=>?_⟩,k⟩
    obtain⟨j,rfl⟩ : ∃i,j=i+1:=⟨j - 1,by omega⟩
    have e1:=hN n hn
    simp only at e1
    rw[mf,e1]
 obtain⟨r,⟨N,hN⟩,q⟩:=key m fr h start
 exact⟨r,⟨max N (m+1),fun n hn=>by
  have:=hN n (Nat.le_trans (Nat.le_max_left _ _) hn) n (Nat.le_trans (Nat.le_max_right _ _) hn)
  show evC (E0 P) (bU (E0 P) n) fn nt rd n (.loop b) fr h=some r
  rw[Am,hm];exact this⟩,q⟩
theorem wpOp_mono {P:Program} {o:Op} {fr:Fr} {h:IH} {K L:Value→IH→Prop} (k : ∀v h,K v h→L v h) (w:wpOp P o fr h K):wpOp P o fr h L:=by
 cases o
 case call c =>
  cases hc:c.callee<;>simp only[wpOp,hc] at w ⊢
  ·exact Ex.mono w fun _ w=>Ex.mono w fun _ w=>WV.mono w k
  ·exact Ex.mono w fun _ w=>Ex.mono w fun _ w=>k _ _ w
 case pick=>exact Ex.mono w fun _ w=>Ex.mono w fun _ w=>Ex.mono w fun _ w=>w.imp (fun x=>⟨x.1,k _ _ x.2⟩) fun x=>⟨x.1,k _ _ x.2⟩
 case extract =>
  refine Ex.mono w fun v w=>?_
  split at w
  ·exact Ex.mono w fun _ w=>k _ _ w
  ·exact w.elim
 case makeFunc f _ _ =>
  refine Ex.mono w fun v w=>Ex.mono w fun u w=>?_
  cases f
  ·exact k _ _ w
  all_goals exact w.elim
 case fieldAddr=>exact Ex.mono w fun _ w=>Ex.mono w fun _ w=>Ex.mono w fun _ w=>Ex.mono w fun _ w=>⟨w.1,k _ _ w.2⟩
 all_goals
  first
   | exact Ex.mono w fun _ w=>Ex.mono w fun _ w=>Ex.mono w fun _ w=>k _ _ w
   | exact Ex.mono w fun _ w=>Ex.mono w fun _ w=>k _ _ w
   | exact Ex.mono w fun _ w=>k _ _ w
theorem gD {nt:Nat} {fr:Fr} {d:Option Tmp} {v:Value} {K L:Fr→Prop} (k : ∀fr,K fr→L fr) (w:eF nt fr d v K):eF nt fr d v L:=by
 unfold eF at w ⊢
 split
 ·exact k _ w
 ·unfold Br at w ⊢;split<;>simp_all
theorem Br.mono {b:Bool} {p q p' q':Prop} (h1:p→p') (h2:q→q') (w:Br b p q):Br b p' q':=by cases b<;>simp_all
theorem jA {P:Program} {nt:Nat} {all:List Oper} {K L:Fr→IH→Prop} (k : ∀fr h,K fr h→L fr h) : ∀{l:List Oper} {fr:Fr} {h:IH},wpOps P nt all l fr h K→wpOps P nt all l fr h L
 | [],_,_,w=>k _ _ w
 | o :: l,fr,h,w=>by
  unfold wpOps at w ⊢
  split at w
  ·exact wpOp_mono (fun v h w=>gD (fun fr w=>jA k w) w) w
  ·refine Ex.mono w fun d w=>Ex.mono w fun b w=>?_
   split at w
   ·exact Br.mono (fun w=>wpOp_mono (fun v h w=>gD (fun fr w=>jA k w) w) w) (fun w=>gD (fun fr w=>jA k w) w) w
   ·exact gD (fun fr w=>jA k w) w
   ·exact w
theorem jf {P:Program} {nt:Nat} {all:List Oper} {K L:List (Fr×IH)→Prop} (k : ∀t,K t→L t) : ∀{l:List Oper} {fr:Fr} {h:IH} {tr:List (Fr×IH)},cH P nt all l fr h tr K→cH P nt all l fr h tr L
 | [],_,_,_,w=>k _ w
 | o :: l,fr,h,tr,w=>by
  unfold cH at w ⊢
  split at w
  ·exact wpOp_mono (fun v h w=>gD (fun fr w=>jf k w) w) w
  ·refine Ex.mono w fun d w=>Ex.mono w fun b w=>?_
   split at w
   ·exact Br.mono (fun w=>wpOp_mono (fun v h w=>gD (fun fr w=>jf k w) w) w) (fun w=>gD (fun fr w=>jf k w) w) w
   ·exact gD (fun fr w=>jf k w) w
   ·exact w
theorem lM {P:Program} {fn:FuncId} {nt:Nat} {rd:Option Nat} : ∀{c:Code} {Q R:bf→Fr→IH→Prop} {fr:Fr} {h:IH},(∀e fr h,Q e fr h→R e fr h)→wpC P fn nt rd c fr h Q→wpC P fn nt rd c fr h R
 | .skip,_,_,_,_,k,w=>k _ _ _ w
 | .label _,_,_,_,_,k,w=>k _ _ _ w
 | .region _ _ draw,_,_,_,_,k,w=>by
  cases draw with
  | false=>exact jA (k _) w
  | true=>exact⟨fun hc=>jA (k _) (w.1 hc),fun hc=>⟨(w.2 hc).1,jf (fun t w=>⟨w.1,Ex.mono w.2 fun _ w=>k _ _ _ w⟩) (w.2 hc).2⟩⟩
 | .seq a b,Q,R,fr,h,k,w=>by
  refine lM (c:=a) (fun e fr h w=>?_) w
  cases e with
  | normal=>exact lM (c:=b) k w
  | exit i=>exact k _ _ _ w
  | ret=>exact k _ _ _ w
 | .cond c a b,Q,R,fr,h,k,w=>by
  refine Ex.mono w fun v w=>?_
  split at w
  ·exact Br.mono (fun w=>lM (c:=a) k w) (fun w=>lM (c:=b) k w) w
  ·exact w
 | .block id b,Q,R,fr,h,k,w=>by
  refine lM (c:=b) (fun e fr h w=>?_) w
  cases e with
  | normal=>exact k _ _ _ w
  | exit i=>exact Br.mono (k _ _ _) (k _ _ _) w
  | ret=>exact k _ _ _ w
 | .loop b,_,_,_,_,k,w=>Tm.mono w fun _ w=>k _ _ _ w
 | .scope b,_,_,_,_,k,w=>lM (c:=b) k w
 | .rangeFunc _ _ _ _,_,_,_,_,k,w=>Tm.mono w fun _ w=>k _ _ _ w
 | .exit _,_,_,_,_,k,w=>k _ _ _ w
 | .ret,_,_,_,_,k,w=>k _ _ _ w
 | .goto _,_,_,_,_,_,w=>w.elim
 | .refuse _,_,_,_,_,_,w=>w.elim
theorem wrap_i64 {x:Int} (h : -9223372036854775808≤x∧x≤9223372036854775807):IntKind.i64.wrap x=x:=IntWalk.i64_in x h
theorem ua {x:Int} (h:0≤x∧x≤18446744073709551615):IntKind.u64.wrap x=x:=IntWalk.u64_in x h
theorem wrap_u8 {x:Int} (h:0≤x∧x≤255):IntKind.u8.wrap x=x:=IntWalk.u8_in x h
theorem EF {x:Int} (h:0≤x∧x≤65535):IntKind.u16.wrap x=x:=IntWalk.u16_in x h
theorem wrap_u32 {x:Int} (h:0≤x∧x≤4294967295):IntKind.u32.wrap x=x:=IntWalk.u32_in x h
def dX (P:Program) (t:TypeId):Option Nat:=match P.underlying t with
 | some (.slice e)=>aK P e
 | _=>none
def Mf (P:Program) (t:TypeId):Option (Nat×Nat):=match P.underlying t with
 | some (.array n e)=>(aK P e).map (n,·)
 | _=>none
def kG (P:Program) (t:TypeId):Option (Nat×Nat):=match P.underlying t with
 | some (.slice e)=>match aK P e,gP P e,aC P e with
  | some size,some bytes,some zs=>bif size == 0 || (!(Nat.ble bytes 65536) || !(zs.length == size)) then none else some (size,bytes)
  | _,_,_=>none
 | _=>none
def nT (P:Program) (t:TypeId):Option (Nat×Nat×List Value):=match P.underlying t with
 | some (.slice e)=>match aK P e,gP P e,aC P e with
  | some n,some b,some z=>bif z.length == n then some (n,b,z) else none
  | _,_,_=>none
 | _=>none
def rQ (P:Program) (t:TypeId) (f:Nat):Option (Bool×Nat×Nat) :=
 (fu P t f).bind fun d=>(bj P d.type).bind fun b=>(aK P d.type).map fun n=>(b,d.offset,n)
theorem Al (P:Program) (t:TypeId) (f:Nat) (cs:Array Value) :
  tP P t f (.agg cs)=(rQ P t f).bind fun p=>if p.1=true then some (.agg (cs.extract p.2.1 (p.2.1+p.2.2))) else cs[p.2.1]?:=by
 simp only[tP,rQ]
 cases fu P t f with
 | none=>rfl
 | some d =>
  simp only[Option.bind_some,partOf]
  cases ha:bj P d.type with
  | none=>rfl
  | some b =>
   cases hs:aK P d.type with
   | none =>
    cases b with
    | true=>rfl
    | false => -- a size is there where the kind is
     exfalso
     simp only[bj,Program.underlying,Option.map_eq_some_iff] at ha
     simp only[aK,Option.map_eq_none_iff] at hs
     obtain⟨x,h1,_⟩:=ha
     simp[hs] at h1
   | some n=>cases b<;>simp
def pM (i:Int) (n:Nat):Option Nat:=match i with
 | .ofNat j=>if j<n then some j else none
 | .negSucc _=>none
@[simp] theorem wC {j n:Nat} (h:j<n):pM (j:Int) n=some j:=by
 show(if j<n then some j else none)=some j
 rw[if_pos h]
theorem kM (P:Program) (t:TypeId) (b o n c:Nat) (k:IntKind) (i:Int) :
  indexAddr P t (.slice (some ⟨b,o,none⟩) n c) (.int k i)=(dX P t).bind fun sz=>(pM i n).map fun j=>ptr b (o+j*sz):=by
 simp only[indexAddr,dX,idxOf]
 cases hu:P.underlying t with
 | none=>rfl
 | some d =>
  cases d<;>(try rfl)
  rename_i e
  simp only
  cases hs:aK P e with
  | none=>rfl
  | some sz =>
   cases i with
   | ofNat j =>
    simp only[pM,Option.bind_some,cond_eq_ite,Nat.blt,Nat.ble_eq,Nat.succ_le_iff]
    by_cases hj:j<n
    ·rw[if_pos hj,if_pos hj];rfl
    ·rw[if_neg hj,if_neg hj];rfl
   | negSucc j=>rfl
theorem sL (P:Program) (t:TypeId) (b o:Nat) (k:IntKind) (i:Int) :
  indexAddr P t (ptr b o) (.int k i)=(Mf P t).bind fun a=>(pM i a.1).map fun j=>ptr b (o+j*a.2):=by
 simp only[indexAddr,Mf,idxOf,ptr]
 cases hu:P.underlying t with
 | none=>rfl
 | some d =>
  cases d<;>(try rfl)
  rename_i n e
  simp only
  cases hs:aK P e with
  | none=>rfl
  | some sz =>
   cases i with
   | ofNat j =>
    simp only[pM,Option.bind_some,Option.map_some,cond_eq_ite,Nat.blt,Nat.ble_eq,Nat.succ_le_iff]
    by_cases hj:j<n
    ·rw[if_pos hj,if_pos hj];rfl
    ·rw[if_neg hj,if_neg hj];rfl
   | negSucc j=>rfl
theorem tG {P:Program} {t:TypeId} (hT:bZ P (some t)=true) (h:IH) (a:Option Addr) (n c:Nat):nB P h t (.slice a n c)=some (.int .i64 n):=by
 unfold bZ at hT
 simp only at hT
 unfold nB
 split at hT
 ·rename_i hu;simp[hu]
 ·cases hT
@[simp] theorem builtin_len (P:Program) (h:IH) (ts:Array TypeId) (x:Value):builtin P h .len ts [x]=(ts[0]?).bind fun t=>(nB P h t x).map (·,h):=by
 simp only[builtin];cases ts[0]?<;>rfl
theorem builtin_append (P:Program) (h:IH) (s t:TypeId) (x y:Value) (hT:bZ P (some t)=true):builtin P h .append #[s,t] [x,y]=append P h s x y:=by
 have e1:(#[s,t]:Array TypeId)[1]?=some t:=rfl
 have e0:(#[s,t]:Array TypeId)[0]?=some s:=rfl
 simp only[builtin,e1,e0,hT,cond_true]
theorem Is {P:Program} {s:Sem Value} {v:Value} (h:aw P s=some v) (hv:plain v=true):cw P s=some v:=by simp[cw,h,hv]
theorem iK {P:Program} {t:TypeId} {d:TypeDesc} {α:Type} (hd:P.underlying t=some d) (f:TypeDesc→Sem α):aw P ((underlying t).bind f)=aw P (f d):=by
 have e:aw P ((underlying t).bind f)=aw P ((match P.underlying t with|some d=>(pure d:Sem TypeDesc)|none=>stuck "no such type").bind f):=rfl
 rw[e,hd]
 rfl
theorem jP {P:Program} {s d:TypeId} {k k':IntKind} {n:Int} (hs:(P.underlying s).isSome=true) (hd:P.underlying d=some (.int k')):mZ P s d (.int k n)=some (.int k' (k'.wrap n)):=by
 obtain⟨ds,hs⟩:=Option.isSome_iff_exists.1 hs
 refine Is ?_ rfl
 unfold Go.convert
 show aw P (Sem.bind _ _)=_
 rw[iK hs]
 show aw P (Sem.bind _ _)=_
 rw[iK hd]
 cases ds<;>rfl
theorem Mo {k:IntKind} (a b:Nat) (ha:a<2 ^ k.bits) (hb:b<2 ^ k.bits):(BitVec.ofInt k.bits (a:Int) &&& BitVec.ofInt k.bits (b:Int)).toNat=a &&& b:=by
 simp[BitVec.toNat_and,Nat.mod_eq_of_lt ha,Nat.mod_eq_of_lt hb]
section
variable (P:Program) (t:TypeId) (ox oy:Operand)
theorem vZ {op:BinOp} {k:IntKind} {x y:Int} {v:Value} (hv:plain v=true) (hr:aw P (do eqGuard op t ox oy (.int k x) (.int k y);Go.binOp op t (.int k x) (.int k y))=some v):binop P op t ox oy (.int k x) (.int k y)=some v :=
 di P t ox oy rfl rfl hv hr
theorem ke (k:IntKind) (a b:Int):binop P .and t ox oy (.int k a) (.int k b)=some (.int k (k.wrap (BitVec.ofInt k.bits a &&& BitVec.ofInt k.bits b).toNat)) :=
 vZ P t ox oy rfl (by simp[eqGuard,Go.binOp,Op.intBits];rfl)
theorem pB (k:IntKind) (a b:Int):binop P .or t ox oy (.int k a) (.int k b)=some (.int k (k.wrap (BitVec.ofInt k.bits a ||| BitVec.ofInt k.bits b).toNat)) :=
 vZ P t ox oy rfl (by simp[eqGuard,Go.binOp,Op.intBits];rfl)
theorem sW (k:IntKind) (a b:Int):binop P .xor t ox oy (.int k a) (.int k b)=some (.int k (k.wrap (BitVec.ofInt k.bits a ^^^ BitVec.ofInt k.bits b).toNat)) :=
 vZ P t ox oy rfl (by simp[eqGuard,Go.binOp,Op.intBits];rfl)
theorem w5 (k:IntKind) (a b:Int):binop P .andNot t ox oy (.int k a) (.int k b)=some (.int k (k.wrap (BitVec.ofInt k.bits a &&& ~~~BitVec.ofInt k.bits b).toNat)) :=
 vZ P t ox oy rfl (by simp[eqGuard,Go.binOp,Op.intBits];rfl)
theorem dH {n:Nat} (h:n<2 ^ 64):IntKind.u64.wrap (n:Int)=n:=ua (by omega)
theorem kW {n:Nat} (h:n<2 ^ 63):IntKind.i64.wrap (n:Int)=n:=wrap_i64 (by omega)
theorem JM {a b c:Nat} (h:a<c):a &&& b<c:=Nat.lt_of_le_of_lt Nat.and_le_left h
theorem Qb {a b n:Nat} (ha:a<2 ^ n) (hb:b<2 ^ n):a ||| b<2 ^ n:=Nat.or_lt_two_pow ha hb
theorem Bi (a b:Nat) (ha:a<18446744073709551616) (hb:b<18446744073709551616):binop P .and t ox oy (.int .u64 a) (.int .u64 b)=some (.int .u64 ((a &&& b:Nat):Int)):=by
 rw[ke,Mo (k:=.u64) a b ha hb,dH (JM ha)]
theorem vD (a b:Nat) (ha:a<18446744073709551616) (hb:b<18446744073709551616):binop P .or t ox oy (.int .u64 a) (.int .u64 b)=some (.int .u64 ((a ||| b:Nat):Int)):=by
 have e:(BitVec.ofInt 64 (a:Int) ||| BitVec.ofInt 64 (b:Int)).toNat=a ||| b:=by simp[Nat.mod_eq_of_lt ha,Nat.mod_eq_of_lt hb]
 rw[pB,show(BitVec.ofInt IntKind.u64.bits (a:Int) ||| BitVec.ofInt IntKind.u64.bits (b:Int)).toNat=a ||| b from e,dH (Qb (n:=64) ha hb)]
def Ny (a b:Nat):Nat:=a ^^^ (a &&& b)
theorem Db (a b i:Nat):(Ny a b).testBit i=(a.testBit i && !b.testBit i):=by
 simp only[Ny,Nat.testBit_xor,Nat.testBit_and]
 cases a.testBit i<;>cases b.testBit i<;>rfl
theorem Tz {a b n:Nat} (h:a<2 ^ n):Ny a b<2 ^ n:=Nat.xor_lt_two_pow h (Nat.lt_of_le_of_lt Nat.and_le_left h)
theorem wP {k j:IntKind} {a b:Int} (hb:0≤b):binop P .shr t ox oy (.int k a) (.int j b)=some (.int k (a.fdiv (2 ^ (min b.toNat k.bits)))):=by
 refine di P t ox oy rfl rfl rfl ?_
 simp[eqGuard,Go.binOp,Op.shift,Int.not_lt.2 hb];rfl
theorem ov {k j:IntKind} {a b:Int} (hb:0≤b):binop P .shl t ox oy (.int k a) (.int j b)=some (.int k (k.wrap (a*2 ^ (min b.toNat k.bits)))):=by
 refine di P t ox oy rfl rfl rfl ?_
 simp[eqGuard,Go.binOp,Op.shift,Int.not_lt.2 hb];rfl
theorem wR {k:IntKind} {a b:Int} (hb:b≠0):binop P .quo t ox oy (.int k a) (.int k b)=some (.int k (k.wrap (a.tdiv b))):=by
 refine vZ P t ox oy rfl ?_
 simp[eqGuard,Go.binOp,Op.intDiv,hb];rfl
theorem ow {k:IntKind} {a b:Int} (hb:b≠0):binop P .rem t ox oy (.int k a) (.int k b)=some (.int k (a.tmod b)):=by
 refine vZ P t ox oy rfl ?_
 simp[eqGuard,Go.binOp,Op.intDiv,hb];rfl
end
theorem vO (P:Program) (b:Bool):(bif plain (.bool b) then cw P (Op.unary .not (.bool b)) else none)=some (.bool (!b)):=rfl
theorem Bo (P:Program) (k:IntKind) (n:Int):(bif plain (.int k n) then cw P (Op.unary .neg (.int k n)) else none)=some (.int k (k.wrap (-n))):=by
 show some (Value.int k (k.wrap (0 - n)))=_
 rw[Int.zero_sub]
end Go.Id
