/-
  Weakest preconditions over the ideal machine, second part: what the simplifier needs for one step: slots, numbers, memory; calls, loops. Weakest preconditions over the ideal machine, third part: memory, types, calls, loops.
-/
import Derived.Test.YtnanhedgenokpaaGreatTemperDetailedAo
import Derived.IntWalk
set_option linter.unusedVariables false
set_option linter.unusedSimpArgs false
set_option linter.defProp false
set_option linter.deprecated false
namespace Go.Id
open Go
@[simp] theorem fget_nil (t:Nat):fget [] t=none:=rfl
@[simp] theorem fget_cons (s:Nat) (v:Value) (r:Fr) (t:Nat):fget ((s,v) :: r) t=if s=t then some v else fget r t:=by
 simp[fget,cond_eq_ite]
@[simp] theorem opd_tmp (fr:Fr) (t:Nat):opd fr (.tmp t)=fget fr t:=rfl
@[simp] theorem opd_func (fr:Fr) (f:FuncId):opd fr (.func f)=some (.func (.func f) #[] #[]):=rfl
theorem opd_global (fr:Fr) (g:Nat) (h:g<4294967296):opd fr (.global g)=some (ptr (2*g+1) 0):=by
 have:Nat.blt g 4294967296=true:=by simp only[Nat.blt,Nat.ble_eq];exact h
 simp only[opd,this,cond_true];rfl
@[simp] theorem opd_const_int (fr:Fr) (k:IntKind) (n:Int):opd fr (.const (.int k n))=some (.int k n):=rfl
@[simp] theorem opd_const_bool (fr:Fr) (b:Bool):opd fr (.const (.bool b))=some (.bool b):=rfl
@[simp] theorem opd_const_string (fr:Fr) (b:ByteArray):opd fr (.const (.string b))=some (.string b):=rfl
@[simp] theorem opd_const_nilFunc (fr:Fr):opd fr (.const .nilFunc)=some .nilFunc:=rfl
@[simp] theorem opd_const_nilSlice (fr:Fr):opd fr (.const (.slice none 0 0))=some (.slice none 0 0):=rfl
@[simp] theorem opd_const_nilPtr (fr:Fr):opd fr (.const (.pointer none))=some (.pointer none):=rfl
@[simp] theorem opd_const_nilMap (fr:Fr):opd fr (.const (.map none))=some (.map none):=rfl
@[simp] theorem opds_nil (fr:Fr):opds fr []=some []:=rfl
@[simp] theorem opds_cons (fr:Fr) (x:Operand) (l:List Operand):opds fr (x :: l)=(opd fr x).bind fun v=>(opds fr l).map (v :: ·):=by
 simp only[opds];cases opd fr x<;>cases opds fr l<;>rfl
@[simp] theorem partsOf_nil (fr:Fr):partsOf fr []=some []:=rfl
@[simp] theorem partsOf_cons (fr:Fr) (i:Nat) (x:Operand) (l:List (Nat×Operand)):partsOf fr ((i,x) :: l)=(opd fr x).bind fun v=>(partsOf fr l).map ((i,v) :: ·):=by
 simp only[partsOf];cases opd fr x<;>cases partsOf fr l<;>rfl
@[simp] theorem optOpd_none (fr:Fr):optOpd fr none=some none:=rfl
@[simp] theorem optOpd_some (fr:Fr) (x:Operand):optOpd fr (some x)=(opd fr x).map some:=rfl
@[simp] theorem enterFr_nil (i:Nat):enterFr i [] = []:=rfl
@[simp] theorem enterFr_cons (i:Nat) (v:Value) (l:List Value):enterFr i (v :: l)=(i,v) :: enterFr (i+1) l:=rfl
@[simp] theorem wpPut_none (nt:Nat) (fr:Fr) (v:Value) (K:Fr→Prop):wpPut nt fr none v K=K fr:=rfl
@[simp] theorem wpPut_some (nt:Nat) (fr:Fr) (d:Nat) (v:Value) (K:Fr→Prop) (hd:d<nt):wpPut nt fr (some d) v K=K ((d,v) :: fr):=by
 have:Nat.blt d nt=true:=by simp only[Nat.blt,Nat.ble_eq];exact hd
 simp[wpPut,this]
@[congr] theorem wpPut_congr {nt:Nat} {fr fr':Fr} {d:Option Tmp} {v v':Value} {K:Fr→Prop} (a:fr=fr') (b:v=v'):wpPut nt fr d v K=wpPut nt fr' d v' K:=by rw[a,b]
@[congr] theorem wpOps_congr {P:Program} {nt:Nat} {all l:List Oper} {fr fr':Fr} {h h':IH} {K:Fr→IH→Prop} (a:fr=fr') (b:h=h'):wpOps P nt all l fr h K=wpOps P nt all l fr' h' K:=by rw[a,b]
@[congr] theorem wpTrace_congr {P:Program} {nt:Nat} {all l:List Oper} {fr fr':Fr} {h h':IH} {tr:List (Fr×IH)} {K:List (Fr×IH)→Prop} (a:fr=fr') (b:h=h'):wpTrace P nt all l fr h tr K=wpTrace P nt all l fr' h' tr K:=by rw[a,b]
@[congr] theorem wpOp_congr {P:Program} {o:Op} {fr fr':Fr} {h h':IH} {K:Value→IH→Prop} (a:fr=fr') (b:h=h'):wpOp P o fr h K=wpOp P o fr' h' K:=by rw[a,b]
@[congr] theorem wpC_congr {P:Program} {fn:FuncId} {nt:Nat} {rd:Option Nat} {c:Code} {fr fr':Fr} {h h':IH} {Q:IExit→Fr→IH→Prop} (a:fr=fr') (b:h=h'):wpC P fn nt rd c fr h Q=wpC P fn nt rd c fr' h' Q:=by rw[a,b]
section
variable (P:Program) (fr:Fr) (h:IH) (K:Value→IH→Prop)
theorem wpOp_pick (c a b:Operand):wpOp P (.pick c a b) fr h K=Ex (opd fr c) fun c=>Ex (opd fr a) fun a=>Ex (opd fr b) fun b=>c=.bool true∧K a h∨c=.bool false∧K b h:=rfl
def fieldAt (P:Program) (t:TypeId) (f:Nat):Option Nat:=(fieldOf P t f).bind fun d=>(sizeT P d.type).bind fun n=>if n=0 then none else some d.offset
theorem wpOp_fieldAddr (t:TypeId) (x:Operand) (f:Nat):wpOp P (.fieldAddr t x f) fr h K=Ex (opd fr x) fun x=>Ex (asAddr x) fun a=>Ex (fieldAt P t f) fun off=>K (ptr a.1 (a.2+off)) h:=by
 simp only[wpOp,fieldAt,Ex,eq_iff_iff]
 constructor
 ·rintro⟨x,h1,d,h2,a,h3,n,h4,h5,k⟩
  exact⟨x,h1,a,h3,d.offset,by simp[h2,h4,h5],k⟩
 ·rintro⟨x,h1,a,h3,off,h2,k⟩
  cases hd:fieldOf P t f with
  | none=>simp[hd] at h2
  | some d =>
   cases hn:sizeT P d.type with
   | none=>simp[hd,hn] at h2
   | some n =>
    simp only[hd,hn,Option.bind_some] at h2
    split at h2
    ·cases h2
    ·rename_i h0;cases h2;exact⟨x,h1,d,rfl,a,h3,n,hn,h0,k⟩
theorem Ex_bind {α β:Type} (o:Option α) (f:α→Option β) (K:β→Prop):Ex (o.bind f) K=Ex o fun v=>Ex (f v) K:=by cases o<;>simp[Ex]
theorem wpOp_unOp (op:UnOp) (t:TypeId) (x:Operand):wpOp P (.unOp op t x) fr h K=Ex (opd fr x) fun v=>Ex (bif plain v then pureVal P (Op.unary op v) else none) fun v=>K v h:=by
 show Ex (iop P fr (.unOp op t x) h) _=_
 simp only[iop]
 cases opd fr x with
 | none=>simp
 | some v=>cases hp:plain v<;>simp[hp]
def convV (P:Program) (s d:TypeId) (v:Value):Option Value:=bif plain v then pureVal P (Go.convert s d v) else none
theorem wpOp_convert (s d:TypeId) (x:Operand):wpOp P (.convert s d x) fr h K=Ex (opd fr x) fun v=>Ex (convV P s d v) fun v=>K v h:=by
 show Ex (iop P fr (.convert s d x) h) _=_
 simp only[iop,convV]
 cases opd fr x with
 | none=>simp
 | some v=>cases hp:plain v<;>simp[hp]
theorem wpOp_makeSlice (t:TypeId) (l c:Operand):wpOp P (.makeSlice t l c) fr h K=Ex (opd fr l) fun l=>Ex (opd fr c) fun c=>Ex (makeSlice P h t l c) fun r=>K r.1 r.2:=by
 show Ex (iop P fr (.makeSlice t l c) h) _=_
 simp only[iop]
 cases opd fr l<;>cases opd fr c<;>simp
theorem wpOp_buildSlice (t:TypeId) (n:Nat) (ps:Array (Nat×Operand)):wpOp P (.buildSlice t n ps) fr h K=Ex (partsOf fr ps.toList) fun ps=>Ex (buildSlice P h t n ps) fun r=>K r.1 r.2:=by
 show Ex (iop P fr (.buildSlice t n ps) h) _=_
 simp only[iop]
 cases partsOf fr ps.toList<;>simp
theorem wpOp_slice (t:TypeId) (x:Operand) (lo hi mx:Option Operand):wpOp P (.slice t x lo hi mx) fr h K=Ex (opd fr x) fun x=>Ex (optOpd fr lo) fun lo=>Ex (optOpd fr hi) fun hi=>Ex (optOpd fr mx) fun mx=>Ex (sliceOp P h t x lo hi mx) fun v=>K v h:=by
 show Ex (iop P fr (.slice t x lo hi mx) h) _=_
 simp only[iop]
 cases opd fr x with
 | none=>simp
 | some x=>cases optOpd fr lo with
  | none=>simp
  | some lo=>cases optOpd fr hi with
   | none=>simp
   | some hi=>cases optOpd fr mx<;>simp
def buildV (P:Program) (t:TypeId) (ps:List (Nat×Value)):Option Value :=
 (zeroCellsT P t).bind fun z=>bif allSized P t then (fillP (placeOf P t) z ps).map fun cs=>.agg cs.toArray else none
theorem wpOp_build (t:TypeId) (ps:Array (Nat×Operand)):wpOp P (.build t ps) fr h K=Ex (partsOf fr ps.toList) fun ps=>Ex (buildV P t ps) fun v=>K v h:=by
 show Ex (iop P fr (.build t ps) h) _=_
 simp only[iop,buildV]
 cases zeroCellsT P t<;>cases partsOf fr ps.toList<;>cases allSized P t<;>simp
def fieldV (P:Program) (t:TypeId) (f:Nat) (x:Value):Option Value :=
 match x with
 | .agg cs=>(fieldOf P t f).bind fun d=>partOf P d.type cs d.offset
 | _=>none
theorem wpOp_field (t:TypeId) (x:Operand) (f:Nat):wpOp P (.field t x f) fr h K=Ex (opd fr x) fun x=>Ex (fieldV P t f x) fun v=>K v h:=by
 show Ex (iop P fr (.field t x f) h) _=_
 simp only[iop]
 cases hx:opd fr x with
 | none=>simp
 | some v =>
  cases v<;>(try (simp[fieldV];done))
  cases hf:fieldOf P t f with
  | none=>simp[fieldV,hf]
  | some d=>simp[fieldV,hf]
theorem wpOp_nilCheck (x:Operand):wpOp P (.nilCheck x) fr h K=Ex (opd fr x) fun x=>match x with
  | .pointer (some a)=>K (.pointer (some a)) h
  | .func (.func f) xs ys=>K (.func (.func f) xs ys) h
  | .func (.yield f) xs ys=>K (.func (.yield f) xs ys) h
  | .map r=>K (.map r) h
  | _=>False:=by
 show Ex (iop P fr (.nilCheck x) h) _=_
 simp only[iop]
 cases hx:opd fr x with
 | none=>simp
 | some v =>
  cases v with
  | pointer a=>cases a<;>simp
  | func f xs ys=>cases f<;>simp
  | _=>simp
theorem wpOp_lookup (t:TypeId) (m k:Operand) (ok:Bool):wpOp P (.lookup t m k ok) fr h K=Ex (opd fr m) fun m=>Ex (opd fr k) fun k=>Ex (lookup P h t m k ok) fun v=>K v h:=by
 show Ex (iop P fr (.lookup t m k ok) h) _=_
 simp only[iop]
 cases opd fr m<;>cases opd fr k<;>simp
theorem wpOp_mapUpdate (t:TypeId) (m k v:Operand):wpOp P (.mapUpdate t m k v) fr h K=Ex (opd fr m) fun m=>Ex (opd fr k) fun k=>Ex (opd fr v) fun v=>Ex (mapUpdate P h t m k v) fun h=>K undef h:=by
 show Ex (iop P fr (.mapUpdate t m k v) h) _=_
 simp only[iop]
 cases opd fr m<;>cases opd fr k<;>cases opd fr v<;>simp
theorem wpOp_insert (t:TypeId) (m k v:Operand):wpOp P (.insert t m k v) fr h K=Ex (opd fr m) fun m=>Ex (opd fr k) fun k=>Ex (opd fr v) fun v=>Ex (mapUpdate P h t m k v) fun h=>K undef h:=wpOp_mapUpdate P fr h K t m k v
theorem wpOp_makeMap (t:TypeId):wpOp P (.makeMap t none) fr h K=K (.map (some (2*h.n))) (h.new (.map [])):=by
 show Ex (iop P fr (.makeMap t none) h) _=_
 simp[iop]
def indexV (P:Program) (t:TypeId) (x i:Value):Option Value :=
 match x with
 | .agg cs=>match P.underlying t,idxOf i with
   | some (.array n e),some (.ofNat j)=>bif Nat.blt j n then (sizeT P e).bind fun size=>partOf P e cs (j*size) else none
   | _,_=>none
 | .string s=>bif plain i then pureVal P (Instr.index t (.string s) i) else none
 | _=>none
theorem wpOp_index (t:TypeId) (x i:Operand):wpOp P (.index t x i) fr h K=Ex (opd fr x) fun x=>Ex (opd fr i) fun i=>Ex (indexV P t x i) fun v=>K v h:=by
 show Ex (iop P fr (.index t x i) h) _=_
 simp only[iop]
 cases hx:opd fr x with
 | none=>simp
 | some v =>
  cases hi:opd fr i with
  | none=>cases v<;>simp
  | some i =>
   cases v<;>(try (simp[indexV];done))
   ·simp only[indexV,Ex_some]
    cases hp:plain i<;>simp[]
   ·rename_i cs
    simp only[indexV,Ex_some]
    cases hu:P.underlying t with
    | none=>simp
    | some d =>
     cases hi':idxOf i with
     | none=>cases d<;>simp
     | some z =>
      cases d<;>(try (simp;done))
      cases z with
      | negSucc z=>simp
      | ofNat j =>
       rename_i n e
       simp only
       cases hb:Nat.blt j n<;>simp
       cases sizeT P e<;>simp
end
section
variable (P:Program) (t:TypeId) (ox oy:Operand) (k:IntKind) (a b:Int)
theorem binop_of {op:BinOp} {x y v:Value} (hx:plain x=true) (hy:plain y=true) (hv:plain v=true) (hr:pureRun P (do eqGuard op t ox oy x y;Go.binOp op t x y)=some v):binop P op t ox oy x y=some v:=by
 simp[binop,hx,hy,pureVal,hr,hv]
@[simp] theorem binop_add:binop P .add t ox oy (.int k a) (.int k b)=some (.int k (k.wrap (a+b))) :=
 binop_of P t ox oy rfl rfl rfl (by simp[eqGuard,Go.binOp,Op.intArith];rfl)
@[simp] theorem binop_sub:binop P .sub t ox oy (.int k a) (.int k b)=some (.int k (k.wrap (a - b))) :=
 binop_of P t ox oy rfl rfl rfl (by simp[eqGuard,Go.binOp,Op.intArith];rfl)
@[simp] theorem binop_mul:binop P .mul t ox oy (.int k a) (.int k b)=some (.int k (k.wrap (a*b))) :=
 binop_of P t ox oy rfl rfl rfl (by simp[eqGuard,Go.binOp,Op.intArith];rfl)
@[simp] theorem binop_eql:binop P .eql t ox oy (.int k a) (.int k b)=some (.bool (a == b)) :=
 binop_of P t ox oy rfl rfl rfl (by simp[eqGuard,Go.binOp,Op.intCmp];rfl)
@[simp] theorem binop_neq:binop P .neq t ox oy (.int k a) (.int k b)=some (.bool (a != b)) :=
 binop_of P t ox oy rfl rfl rfl (by simp[eqGuard,Go.binOp,Op.intCmp];rfl)
@[simp] theorem binop_lss:binop P .lss t ox oy (.int k a) (.int k b)=some (.bool (decide (a<b))) :=
 binop_of P t ox oy rfl rfl rfl (by simp[eqGuard,Go.binOp,Op.intCmp];rfl)
@[simp] theorem binop_leq:binop P .leq t ox oy (.int k a) (.int k b)=some (.bool (decide (a≤b))) :=
 binop_of P t ox oy rfl rfl rfl (by simp[eqGuard,Go.binOp,Op.intCmp];rfl)
@[simp] theorem binop_gtr:binop P .gtr t ox oy (.int k a) (.int k b)=some (.bool (decide (b<a))) :=
 binop_of P t ox oy rfl rfl rfl (by simp[eqGuard,Go.binOp,Op.intCmp];rfl)
@[simp] theorem binop_geq:binop P .geq t ox oy (.int k a) (.int k b)=some (.bool (decide (b≤a))) :=
 binop_of P t ox oy rfl rfl rfl (by simp[eqGuard,Go.binOp,Op.intCmp];rfl)
end
end Go.Id

namespace Go.Id
open Go
@[simp] theorem new_n (h:IH) (o:IObj):(h.new o).n=h.n+1:=rfl
@[simp] theorem new_base (h:IH) (o:IObj):(h.new o).base=h.base:=rfl
@[simp] theorem new_fams (h:IH) (o:IObj):(h.new o).fams=h.fams:=rfl
theorem get_new (h:IH) (o:IObj) (k:Nat):(h.new o).ext.get k=if k=h.n then some o else h.ext.get k:=by simp[IH.new,Tr.get_set]
def IH.put (h:IH) (k:Nat) (o:IObj):IH:={ h with ext:=h.ext.set k o }
@[simp] theorem put_n (h:IH) (k:Nat) (o:IObj):(h.put k o).n=h.n:=rfl
@[simp] theorem put_base (h:IH) (k:Nat) (o:IObj):(h.put k o).base=h.base:=rfl
@[simp] theorem put_fams (h:IH) (k:Nat) (o:IObj):(h.put k o).fams=h.fams:=rfl
theorem get_put (h:IH) (k:Nat) (o:IObj) (j:Nat):(h.put k o).ext.get j=if j=k then some o else h.ext.get j:=by simp[IH.put,Tr.get_set]
theorem get_new_same (h:IH) (o:IObj) {k:Nat} (hk:k=h.n):(h.new o).ext.get k=some o:=by rw[get_new,if_pos hk]
theorem get_new_old (h:IH) (o:IObj) {k:Nat} (hk:k≠h.n):(h.new o).ext.get k=h.ext.get k:=by rw[get_new,if_neg hk]
theorem get_put_same (h:IH) (o:IObj) {k j:Nat} (hk:j=k):(h.put k o).ext.get j=some o:=by rw[get_put,if_pos hk]
theorem get_put_old (h:IH) (o:IObj) {k j:Nat} (hk:j≠k):(h.put k o).ext.get j=h.ext.get j:=by rw[get_put,if_neg hk]
def IH.cells (h:IH) (k:Nat):Option (List Value):=match h.ext.get k with
 | some (.cells cs _ _)=>some cs
 | _=>none
theorem cells_of {h:IH} {k:Nat} {cs:List Value} {e:Nat} {f:Option Nat} (hk:h.ext.get k=some (.cells cs e f)):h.cells k=some cs:=by simp[IH.cells,hk]
theorem row_even (h:IH) (k:Nat):h.row (2*k)=h.cells k:=by
 have h1:(2*k) % 2=0:=by omega
 have h2:2*k / 2=k:=by omega
 simp only[IH.row,h1,h2,IH.cells];rfl
theorem row_new_same (h:IH) (cs:List Value) (e:Nat) (f:Option Nat) {b:Nat} (hb:b=2*h.n):(h.new (.cells cs e f)).row b=some cs:=by
 subst hb;rw[row_even];simp[IH.cells,get_new]
theorem row_new_old (h:IH) (o:IObj) {b:Nat} (hb:b≠2*h.n):(h.new o).row b=h.row b:=by
 simp only[IH.row,new_base,get_new,cond_eq_ite,beq_iff_eq]
 by_cases h1:b % 2=1
 ·simp[h1]
 ·rw[if_neg h1,if_neg h1,if_neg (by omega)]
theorem row_put_same (h:IH) (cs:List Value) (e:Nat) (f:Option Nat) {b k:Nat} (hb:b=2*k):(h.put k (.cells cs e f)).row b=some cs:=by
 subst hb;rw[row_even];simp[IH.cells,get_put]
theorem row_put_old (h:IH) (k:Nat) (o:IObj) {b:Nat} (hb:b≠2*k):(h.put k o).row b=h.row b:=by
 simp only[IH.row,put_base,get_put,cond_eq_ite,beq_iff_eq]
 by_cases h1:b % 2=1
 ·simp[h1]
 ·rw[if_neg h1,if_neg h1,if_neg (by omega)]
structure Ext (h h':IH):Prop where
 n:h.n≤h'.n
 base:h'.base=h.base
 get : ∀k,k<h.n→h'.ext.get k=h.ext.get k
 fams : ∀f,f<h.n→h'.fams.get f=h.fams.get f
@[simp] theorem Ext.refl (h:IH):Ext h h:=⟨Nat.le_refl _,rfl,fun _ _=>rfl,fun _ _=>rfl⟩
theorem Ext.trans {a b c:IH} (h:Ext a b) (k:Ext b c):Ext a c :=
 ⟨Nat.le_trans h.n k.n,k.base.trans h.base,fun x hx=>(k.get x (Nat.lt_of_lt_of_le hx h.n)).trans (h.get x hx),fun x hx=>(k.fams x (Nat.lt_of_lt_of_le hx h.n)).trans (h.fams x hx)⟩
theorem Ext.new {a b:IH} (h:Ext a b) (o:IObj):Ext a (b.new o) :=
 ⟨Nat.le_trans h.n (Nat.le_succ _),h.base,fun x hx=>by rw[get_new,if_neg (by have:=h.n;omega)];exact h.get x hx,fun x hx=>h.fams x hx⟩
theorem Ext.put {a b:IH} (h:Ext a b) {k:Nat} (hk:a.n≤k) (o:IObj):Ext a (b.put k o) :=
 ⟨h.n,h.base,fun x hx=>by rw[get_put,if_neg (by omega)];exact h.get x hx,fun x hx=>h.fams x hx⟩
theorem Ext.row {a b:IH} (h:Ext a b) {x:Nat} (hx:x % 2=1∨x<2*a.n):b.row x=a.row x:=by
 simp only[IH.row,h.base,cond_eq_ite,beq_iff_eq]
 by_cases h1:x % 2=1
 ·rw[if_pos h1,if_pos h1]
 ·rw[if_neg h1,if_neg h1,h.get _ (by omega)]
def ld (h:IH) (b o:Nat):Option Value:=(h.row b).bind (·[o]?)
theorem ld_of {h:IH} {b o:Nat} {cs:List Value} (hr:h.row b=some cs):ld h b o=cs[o]?:=by simp[ld,hr]
theorem load_scal {P:Program} {t:TypeId} (hT:isAggT P t=some false) (h:IH) (b o:Nat):load P h t (ptr b o)=ld h b o:=by
 simp only[load,asAddr,ptr,hT,IH.rd,ld]
 cases sizeT P t <;>
 (cases hr:h.row b with
  | none=>rfl
  | some cs =>
   simp only[Option.bind_some,cond_eq_ite,Nat.ble_eq]
   by_cases hl:o+1≤cs.length
   ·rw[if_pos hl]
    simp only[Option.bind_some]
    rw[List.head?_take,if_neg (by omega),List.head?_drop]
   ·rw[if_neg hl,List.getElem?_eq_none (by omega)];rfl)
theorem load_agg {P:Program} {t:TypeId} {n:Nat} (hT:isAggT P t=some true) (hn:sizeT P t=some n) (h:IH) (b o:Nat):load P h t (ptr b o)=(h.rd b o n).map fun cs=>.agg cs.toArray:=by
 simp only[load,asAddr,ptr,hT,hn]
@[simp] theorem asAddr_ptr (b o:Nat):asAddr (ptr b o)=some (b,o):=rfl
theorem rd_of {h:IH} {b o n:Nat} {cs:List Value} (hr:h.row b=some cs):h.rd b o n=if o+n≤cs.length then some ((cs.drop o).take n) else none:=by
 simp[IH.rd,hr,cond_eq_ite]
@[simp] theorem cells_int (k:IntKind) (n:Int):(Value.int k n).cells = #[.int k n]:=rfl
@[simp] theorem cells_bool (b:Bool):(Value.bool b).cells = #[.bool b]:=rfl
@[simp] theorem cells_slice (a:Option Addr) (n c:Nat):(Value.slice a n c).cells = #[.slice a n c]:=rfl
@[simp] theorem cells_ptr (b o:Nat):(ptr b o).cells = #[ptr b o]:=rfl
@[simp] theorem cells_agg (cs:Array Value):(Value.agg cs).cells=cs:=rfl
@[simp] theorem cells_func (f:Fn) (a b:Array Value):(Value.func f a b).cells = #[.func f a b]:=rfl
@[simp] theorem cells_nilFunc:(Value.nilFunc).cells = #[.nilFunc]:=rfl
@[simp] theorem cells_map (r:Option Nat):(Value.map r).cells = #[.map r]:=rfl
@[simp] theorem cells_nilPtr:(Value.pointer none).cells = #[.pointer none]:=rfl
theorem wv_enter {P:Program} {f:FuncId} {fn:Func} {c:Code} {nt:Nat} {rs:List ResultVar} {first cap:Array Value} {vs:List Value} {h:IH} {K:Value→IH→Prop}
  (hf:P.funcs[f]?=some fn) (hb:fn.body=some c) (hn:fn.ntmps=nt) (hr:fn.results.toList=rs) (hl:(first.toList ++ (vs ++ cap.toList)).length≤nt)
  (w:wpC P f nt none c (enterFr 0 (first.toList ++ (vs ++ cap.toList))) h fun e fr h=>match e with
   | .exit _=>False
   | .normal=>Ex (resultsOf P fr h rs) fun l=>K (single l) h
   | .ret=>Ex (resultsOf P fr h rs) fun l=>K (single l) h):WV P (.func (.func f) first cap) vs h K:=by
 subst hn;subst hr
 obtain⟨⟨e,fr,h1⟩,⟨N,hN⟩,k⟩:=wpC_sound w
 have key : ∃l,resultsOf P fr h1 fn.results.toList=some l∧K (single l) h1 ∧ ∀i,e≠.exit i:=by
  cases e with
  | exit i=>exact k.elim
  | normal=>obtain⟨l,a,b⟩:=k;exact⟨l,a,b,fun i hi=>by cases hi⟩
  | ret=>obtain⟨l,a,b⟩:=k;exact⟨l,a,b,fun i hi=>by cases hi⟩
 obtain⟨l,hl1,k,hne⟩:=key
 refine⟨(single l,h1),⟨N+1,fun n hn=>?_⟩,k⟩
 obtain⟨n,rfl⟩ : ∃m,n=m+1:=⟨n - 1,by omega⟩
 have h2:=hN n (by omega)
 simp only at h2
 have hble:Nat.ble (first.toList ++ (vs ++ cap.toList)).length fn.ntmps=true:=by simpa [Nat.ble_eq] using hl
 have hf':(E0 P).P.funcs[f]?=some fn:=hf
 simp only[callV,callFn,show(E0 P).intr f=none from rfl,hf',hb,hble,cond_true,h2]
 cases e with
 | exit i=>exact absurd rfl (hne i)
 | normal=>simp[E0,hl1]
 | ret=>simp[E0,hl1]
@[simp] theorem resultsOf_nil (P:Program) (fr:Fr) (h:IH):resultsOf P fr h []=some []:=rfl
@[simp] theorem resultsOf_cons (P:Program) (fr:Fr) (h:IH) (r:ResultVar) (l:List ResultVar):resultsOf P fr h (r :: l)=(resultOf P fr h r).bind fun v=>(resultsOf P fr h l).map (v :: ·):=by
 simp only[resultsOf];cases resultOf P fr h r<;>cases resultsOf P fr h l<;>rfl
@[simp] theorem resultOf_tmp (P:Program) (fr:Fr) (h:IH) (t:Tmp):resultOf P fr h (.tmp t)=fget fr t:=rfl
@[simp] theorem resultOf_cell (P:Program) (fr:Fr) (h:IH) (a:Tmp) (t:TypeId):resultOf P fr h (.cell a t)=(fget fr a).bind fun v=>load P h t v:=by
 simp only[resultOf];cases fget fr a<;>rfl
theorem wloop {P:Program} {fn:FuncId} {nt:Nat} {rd:Option Nat} {b:Code} {Q:IExit→Fr→IH→Prop} (I:Nat→Fr→IH→Prop)
  (step : ∀m fr h,I m fr h→wpC P fn nt rd b fr h fun e fr' h'=>match e with
   | .normal => ∃m',m'<m∧I m' fr' h'
   | .exit i=>Q (.exit i) fr' h'
   | .ret=>Q .ret fr' h') {fr:Fr} {h:IH} {m:Nat} (start:I m fr h) (hm:headOf b=none):WLoop P fn nt rd b fr h Q:=by
 have key : ∀m fr h,I m fr h → ∃r:IExit×Fr×IH,(∃N,∀n,N≤n → ∀j,m+1≤j→loopN (evC (E0 P) (callV (E0 P) n) fn nt rd n b) j fr h=some r)∧Q r.1 r.2.1 r.2.2:=by
  intro m
  induction m using Nat.strongRecOn with
  | _ m ih =>
   intro fr h hi
   obtain⟨⟨e,fr1,h1⟩,⟨N,hN⟩,k⟩:=wpC_sound (step m fr h hi)
   cases e with
   | normal =>
    obtain⟨m',hm,hi'⟩:=k
    obtain⟨r,⟨M,hM⟩,q⟩:=ih m' hm fr1 h1 hi'
    refine⟨r,⟨max N M,fun n hn j hj=>?_⟩,q⟩
    obtain⟨j,rfl⟩ : ∃i,j=i+1:=⟨j - 1,by omega⟩
    have e1:=hN n (Nat.le_trans (Nat.le_max_left _ _) hn)
    simp only at e1
    rw[loopN,e1]
    exact hM n (Nat.le_trans (Nat.le_max_right _ _) hn) j (by omega)
   | exit i =>
    refine⟨(.exit i,fr1,h1),⟨N,fun n hn j hj=>?_⟩,k⟩
    obtain⟨j,rfl⟩ : ∃i,j=i+1:=⟨j - 1,by omega⟩
    have e1:=hN n hn
    simp only at e1
    rw[loopN,e1]
   | ret =>
    refine⟨(.ret,fr1,h1),⟨N,fun n hn j hj=>?_⟩,k⟩
    obtain⟨j,rfl⟩ : ∃i,j=i+1:=⟨j - 1,by omega⟩
    have e1:=hN n hn
    simp only at e1
    rw[loopN,e1]
 obtain⟨r,⟨N,hN⟩,q⟩:=key m fr h start
 exact⟨r,⟨max N (m+1),fun n hn=>by
  have:=hN n (Nat.le_trans (Nat.le_max_left _ _) hn) n (Nat.le_trans (Nat.le_max_right _ _) hn)
  show evC (E0 P) (callV (E0 P) n) fn nt rd n (.loop b) fr h=some r
  rw[evC_loop,hm];exact this⟩,q⟩
theorem wpOp_mono {P:Program} {o:Op} {fr:Fr} {h:IH} {K L:Value→IH→Prop} (k : ∀v h,K v h→L v h) (w:wpOp P o fr h K):wpOp P o fr h L:=by
 cases o
 case call c =>
  cases hc:c.callee<;>simp only[wpOp,hc] at w ⊢
  ·exact Ex.mono w fun _ w=>Ex.mono w fun _ w=>WV.mono w k
  ·exact Ex.mono w fun _ w=>Ex.mono w fun _ w=>k _ _ w
 case pick=>exact Ex.mono w fun _ w=>Ex.mono w fun _ w=>Ex.mono w fun _ w=>w.imp (fun x=>⟨x.1,k _ _ x.2⟩) fun x=>⟨x.1,k _ _ x.2⟩
 case extract =>
  refine Ex.mono w fun v w=>?_
  split at w
  ·exact Ex.mono w fun _ w=>k _ _ w
  ·exact w.elim
 case makeFunc f _ _ =>
  refine Ex.mono w fun v w=>Ex.mono w fun u w=>?_
  cases f
  ·exact k _ _ w
  all_goals exact w.elim
 case fieldAddr=>exact Ex.mono w fun _ w=>Ex.mono w fun _ w=>Ex.mono w fun _ w=>Ex.mono w fun _ w=>⟨w.1,k _ _ w.2⟩
 all_goals
  first
   | exact Ex.mono w fun _ w=>Ex.mono w fun _ w=>Ex.mono w fun _ w=>k _ _ w
   | exact Ex.mono w fun _ w=>Ex.mono w fun _ w=>k _ _ w
   | exact Ex.mono w fun _ w=>k _ _ w
theorem wpPut_mono {nt:Nat} {fr:Fr} {d:Option Tmp} {v:Value} {K L:Fr→Prop} (k : ∀fr,K fr→L fr) (w:wpPut nt fr d v K):wpPut nt fr d v L:=by
 unfold wpPut at w ⊢
 split
 ·exact k _ w
 ·unfold Br at w ⊢;split<;>simp_all
theorem Br.mono {b:Bool} {p q p' q':Prop} (h1:p→p') (h2:q→q') (w:Br b p q):Br b p' q':=by cases b<;>simp_all
theorem wpOps_mono {P:Program} {nt:Nat} {all:List Oper} {K L:Fr→IH→Prop} (k : ∀fr h,K fr h→L fr h) : ∀{l:List Oper} {fr:Fr} {h:IH},wpOps P nt all l fr h K→wpOps P nt all l fr h L
 | [],_,_,w=>k _ _ w
 | o :: l,fr,h,w=>by
  unfold wpOps at w ⊢
  split at w
  ·exact wpOp_mono (fun v h w=>wpPut_mono (fun fr w=>wpOps_mono k w) w) w
  ·refine Ex.mono w fun d w=>Ex.mono w fun b w=>?_
   split at w
   ·exact Br.mono (fun w=>wpOp_mono (fun v h w=>wpPut_mono (fun fr w=>wpOps_mono k w) w) w) (fun w=>wpPut_mono (fun fr w=>wpOps_mono k w) w) w
   ·exact wpPut_mono (fun fr w=>wpOps_mono k w) w
   ·exact w
theorem wpTrace_mono {P:Program} {nt:Nat} {all:List Oper} {K L:List (Fr×IH)→Prop} (k : ∀t,K t→L t) : ∀{l:List Oper} {fr:Fr} {h:IH} {tr:List (Fr×IH)},wpTrace P nt all l fr h tr K→wpTrace P nt all l fr h tr L
 | [],_,_,_,w=>k _ w
 | o :: l,fr,h,tr,w=>by
  unfold wpTrace at w ⊢
  split at w
  ·exact wpOp_mono (fun v h w=>wpPut_mono (fun fr w=>wpTrace_mono k w) w) w
  ·refine Ex.mono w fun d w=>Ex.mono w fun b w=>?_
   split at w
   ·exact Br.mono (fun w=>wpOp_mono (fun v h w=>wpPut_mono (fun fr w=>wpTrace_mono k w) w) w) (fun w=>wpPut_mono (fun fr w=>wpTrace_mono k w) w) w
   ·exact wpPut_mono (fun fr w=>wpTrace_mono k w) w
   ·exact w
theorem wpC_mono {P:Program} {fn:FuncId} {nt:Nat} {rd:Option Nat} : ∀{c:Code} {Q R:IExit→Fr→IH→Prop} {fr:Fr} {h:IH},(∀e fr h,Q e fr h→R e fr h)→wpC P fn nt rd c fr h Q→wpC P fn nt rd c fr h R
 | .skip,_,_,_,_,k,w=>k _ _ _ w
 | .label _,_,_,_,_,k,w=>k _ _ _ w
 | .region _ _ draw,_,_,_,_,k,w=>by
  cases draw with
  | false=>exact wpOps_mono (k _) w
  | true=>exact⟨fun hc=>wpOps_mono (k _) (w.1 hc),fun hc=>⟨(w.2 hc).1,wpTrace_mono (fun t w=>⟨w.1,Ex.mono w.2 fun _ w=>k _ _ _ w⟩) (w.2 hc).2⟩⟩
 | .seq a b,Q,R,fr,h,k,w=>by
  refine wpC_mono (c:=a) (fun e fr h w=>?_) w
  cases e with
  | normal=>exact wpC_mono (c:=b) k w
  | exit i=>exact k _ _ _ w
  | ret=>exact k _ _ _ w
 | .cond c a b,Q,R,fr,h,k,w=>by
  refine Ex.mono w fun v w=>?_
  split at w
  ·exact Br.mono (fun w=>wpC_mono (c:=a) k w) (fun w=>wpC_mono (c:=b) k w) w
  ·exact w
 | .block id b,Q,R,fr,h,k,w=>by
  refine wpC_mono (c:=b) (fun e fr h w=>?_) w
  cases e with
  | normal=>exact k _ _ _ w
  | exit i=>exact Br.mono (k _ _ _) (k _ _ _) w
  | ret=>exact k _ _ _ w
 | .loop b,_,_,_,_,k,w=>Tm.mono w fun _ w=>k _ _ _ w
 | .scope b,_,_,_,_,k,w=>wpC_mono (c:=b) k w
 | .rangeFunc _ _ _ _,_,_,_,_,k,w=>Tm.mono w fun _ w=>k _ _ _ w
 | .exit _,_,_,_,_,k,w=>k _ _ _ w
 | .ret,_,_,_,_,k,w=>k _ _ _ w
 | .goto _,_,_,_,_,_,w=>w.elim
 | .refuse _,_,_,_,_,_,w=>w.elim
theorem wrap_i64 {x:Int} (h : -9223372036854775808≤x∧x≤9223372036854775807):IntKind.i64.wrap x=x:=IntWalk.i64_in x h
theorem wrap_u64 {x:Int} (h:0≤x∧x≤18446744073709551615):IntKind.u64.wrap x=x:=IntWalk.u64_in x h
theorem wrap_u8 {x:Int} (h:0≤x∧x≤255):IntKind.u8.wrap x=x:=IntWalk.u8_in x h
theorem wrap_u16 {x:Int} (h:0≤x∧x≤65535):IntKind.u16.wrap x=x:=IntWalk.u16_in x h
theorem wrap_u32 {x:Int} (h:0≤x∧x≤4294967295):IntKind.u32.wrap x=x:=IntWalk.u32_in x h
end Go.Id

namespace Go.Id
open Go
def elemSize (P:Program) (t:TypeId):Option Nat:=match P.underlying t with
 | some (.slice e)=>sizeT P e
 | _=>none
def arrOf (P:Program) (t:TypeId):Option (Nat×Nat):=match P.underlying t with
 | some (.array n e)=>(sizeT P e).map (n,·)
 | _=>none
def appT (P:Program) (t:TypeId):Option (Nat×Nat):=match P.underlying t with
 | some (.slice e)=>match sizeT P e,bytesT P e,zeroCellsT P e with
  | some size,some bytes,some zs=>bif size == 0 || (!(Nat.ble bytes 65536) || !(zs.length == size)) then none else some (size,bytes)
  | _,_,_=>none
 | _=>none
def makeT (P:Program) (t:TypeId):Option (Nat×Nat×List Value):=match P.underlying t with
 | some (.slice e)=>match sizeT P e,bytesT P e,zeroCellsT P e with
  | some n,some b,some z=>bif z.length == n then some (n,b,z) else none
  | _,_,_=>none
 | _=>none
def fieldPart (P:Program) (t:TypeId) (f:Nat):Option (Bool×Nat×Nat) :=
 (fieldOf P t f).bind fun d=>(isAggT P d.type).bind fun b=>(sizeT P d.type).map fun n=>(b,d.offset,n)
theorem fieldV_agg (P:Program) (t:TypeId) (f:Nat) (cs:Array Value) :
  fieldV P t f (.agg cs)=(fieldPart P t f).bind fun p=>if p.1=true then some (.agg (cs.extract p.2.1 (p.2.1+p.2.2))) else cs[p.2.1]?:=by
 simp only[fieldV,fieldPart]
 cases fieldOf P t f with
 | none=>rfl
 | some d =>
  simp only[Option.bind_some,partOf]
  cases ha:isAggT P d.type with
  | none=>rfl
  | some b =>
   cases hs:sizeT P d.type with
   | none =>
    cases b with
    | true=>rfl
    | false => -- a size is there where the kind is
     exfalso
     simp only[isAggT,Program.underlying,Option.map_eq_some_iff] at ha
     simp only[sizeT,Option.map_eq_none_iff] at hs
     obtain⟨x,h1,_⟩:=ha
     simp[hs] at h1
   | some n=>cases b<;>simp
def idxAt (i:Int) (n:Nat):Option Nat:=match i with
 | .ofNat j=>if j<n then some j else none
 | .negSucc _=>none
@[simp] theorem idxAt_nat {j n:Nat} (h:j<n):idxAt (j:Int) n=some j:=by
 show(if j<n then some j else none)=some j
 rw[if_pos h]
theorem indexAddr_slice (P:Program) (t:TypeId) (b o n c:Nat) (k:IntKind) (i:Int) :
  indexAddr P t (.slice (some ⟨b,o,none⟩) n c) (.int k i)=(elemSize P t).bind fun sz=>(idxAt i n).map fun j=>ptr b (o+j*sz):=by
 simp only[indexAddr,elemSize,idxOf]
 cases hu:P.underlying t with
 | none=>rfl
 | some d =>
  cases d<;>(try rfl)
  rename_i e
  simp only
  cases hs:sizeT P e with
  | none=>rfl
  | some sz =>
   cases i with
   | ofNat j =>
    simp only[idxAt,Option.bind_some,cond_eq_ite,Nat.blt,Nat.ble_eq,Nat.succ_le_iff]
    by_cases hj:j<n
    ·rw[if_pos hj,if_pos hj];rfl
    ·rw[if_neg hj,if_neg hj];rfl
   | negSucc j=>rfl
theorem indexAddr_arr (P:Program) (t:TypeId) (b o:Nat) (k:IntKind) (i:Int) :
  indexAddr P t (ptr b o) (.int k i)=(arrOf P t).bind fun a=>(idxAt i a.1).map fun j=>ptr b (o+j*a.2):=by
 simp only[indexAddr,arrOf,idxOf,ptr]
 cases hu:P.underlying t with
 | none=>rfl
 | some d =>
  cases d<;>(try rfl)
  rename_i n e
  simp only
  cases hs:sizeT P e with
  | none=>rfl
  | some sz =>
   cases i with
   | ofNat j =>
    simp only[idxAt,Option.bind_some,Option.map_some,cond_eq_ite,Nat.blt,Nat.ble_eq,Nat.succ_le_iff]
    by_cases hj:j<n
    ·rw[if_pos hj,if_pos hj];rfl
    ·rw[if_neg hj,if_neg hj];rfl
   | negSucc j=>rfl
theorem lenB_slice {P:Program} {t:TypeId} (hT:isSliceT P (some t)=true) (h:IH) (a:Option Addr) (n c:Nat):lenB P h t (.slice a n c)=some (.int .i64 n):=by
 unfold isSliceT at hT
 simp only at hT
 unfold lenB
 split at hT
 ·rename_i hu;simp[hu]
 ·cases hT
@[simp] theorem builtin_len (P:Program) (h:IH) (ts:Array TypeId) (x:Value):builtin P h .len ts [x]=(ts[0]?).bind fun t=>(lenB P h t x).map (·,h):=by
 simp only[builtin];cases ts[0]?<;>rfl
theorem builtin_append (P:Program) (h:IH) (s t:TypeId) (x y:Value) (hT:isSliceT P (some t)=true):builtin P h .append #[s,t] [x,y]=append P h s x y:=by
 have e1:(#[s,t]:Array TypeId)[1]?=some t:=rfl
 have e0:(#[s,t]:Array TypeId)[0]?=some s:=rfl
 simp only[builtin,e1,e0,hT,cond_true]
theorem pureVal_of {P:Program} {s:Sem Value} {v:Value} (h:pureRun P s=some v) (hv:plain v=true):pureVal P s=some v:=by simp[pureVal,h,hv]
theorem pureRun_underlying {P:Program} {t:TypeId} {d:TypeDesc} {α:Type} (hd:P.underlying t=some d) (f:TypeDesc→Sem α):pureRun P ((underlying t).bind f)=pureRun P (f d):=by
 have e:pureRun P ((underlying t).bind f)=pureRun P ((match P.underlying t with|some d=>(pure d:Sem TypeDesc)|none=>stuck "no such type").bind f):=rfl
 rw[e,hd]
 rfl
theorem convV_int {P:Program} {s d:TypeId} {k k':IntKind} {n:Int} (hs:(P.underlying s).isSome=true) (hd:P.underlying d=some (.int k')):convV P s d (.int k n)=some (.int k' (k'.wrap n)):=by
 obtain⟨ds,hs⟩:=Option.isSome_iff_exists.1 hs
 refine pureVal_of ?_ rfl
 unfold Go.convert
 show pureRun P (Sem.bind _ _)=_
 rw[pureRun_underlying hs]
 show pureRun P (Sem.bind _ _)=_
 rw[pureRun_underlying hd]
 cases ds<;>rfl
theorem wrap_land {k:IntKind} (a b:Nat) (ha:a<2 ^ k.bits) (hb:b<2 ^ k.bits):(BitVec.ofInt k.bits (a:Int) &&& BitVec.ofInt k.bits (b:Int)).toNat=a &&& b:=by
 simp[BitVec.toNat_and,Nat.mod_eq_of_lt ha,Nat.mod_eq_of_lt hb]
section
variable (P:Program) (t:TypeId) (ox oy:Operand)
theorem pu_int {op:BinOp} {k:IntKind} {x y:Int} {v:Value} (hv:plain v=true) (hr:pureRun P (do eqGuard op t ox oy (.int k x) (.int k y);Go.binOp op t (.int k x) (.int k y))=some v):binop P op t ox oy (.int k x) (.int k y)=some v :=
 binop_of P t ox oy rfl rfl hv hr
theorem binop_and_raw (k:IntKind) (a b:Int):binop P .and t ox oy (.int k a) (.int k b)=some (.int k (k.wrap (BitVec.ofInt k.bits a &&& BitVec.ofInt k.bits b).toNat)) :=
 pu_int P t ox oy rfl (by simp[eqGuard,Go.binOp,Op.intBits];rfl)
theorem binop_or_raw (k:IntKind) (a b:Int):binop P .or t ox oy (.int k a) (.int k b)=some (.int k (k.wrap (BitVec.ofInt k.bits a ||| BitVec.ofInt k.bits b).toNat)) :=
 pu_int P t ox oy rfl (by simp[eqGuard,Go.binOp,Op.intBits];rfl)
theorem binop_xor_raw (k:IntKind) (a b:Int):binop P .xor t ox oy (.int k a) (.int k b)=some (.int k (k.wrap (BitVec.ofInt k.bits a ^^^ BitVec.ofInt k.bits b).toNat)) :=
 pu_int P t ox oy rfl (by simp[eqGuard,Go.binOp,Op.intBits];rfl)
theorem binop_andNot_raw (k:IntKind) (a b:Int):binop P .andNot t ox oy (.int k a) (.int k b)=some (.int k (k.wrap (BitVec.ofInt k.bits a &&& ~~~BitVec.ofInt k.bits b).toNat)) :=
 pu_int P t ox oy rfl (by simp[eqGuard,Go.binOp,Op.intBits];rfl)
theorem wrap_nat_u64 {n:Nat} (h:n<2 ^ 64):IntKind.u64.wrap (n:Int)=n:=wrap_u64 (by omega)
theorem wrap_nat_i64 {n:Nat} (h:n<2 ^ 63):IntKind.i64.wrap (n:Int)=n:=wrap_i64 (by omega)
theorem and_lt {a b c:Nat} (h:a<c):a &&& b<c:=Nat.lt_of_le_of_lt Nat.and_le_left h
theorem or_lt {a b n:Nat} (ha:a<2 ^ n) (hb:b<2 ^ n):a ||| b<2 ^ n:=Nat.or_lt_two_pow ha hb
theorem binop_and_u64 (a b:Nat) (ha:a<18446744073709551616) (hb:b<18446744073709551616):binop P .and t ox oy (.int .u64 a) (.int .u64 b)=some (.int .u64 ((a &&& b:Nat):Int)):=by
 rw[binop_and_raw,wrap_land (k:=.u64) a b ha hb,wrap_nat_u64 (and_lt ha)]
theorem binop_or_u64 (a b:Nat) (ha:a<18446744073709551616) (hb:b<18446744073709551616):binop P .or t ox oy (.int .u64 a) (.int .u64 b)=some (.int .u64 ((a ||| b:Nat):Int)):=by
 have e:(BitVec.ofInt 64 (a:Int) ||| BitVec.ofInt 64 (b:Int)).toNat=a ||| b:=by simp[Nat.mod_eq_of_lt ha,Nat.mod_eq_of_lt hb]
 rw[binop_or_raw,show(BitVec.ofInt IntKind.u64.bits (a:Int) ||| BitVec.ofInt IntKind.u64.bits (b:Int)).toNat=a ||| b from e,wrap_nat_u64 (or_lt (n:=64) ha hb)]
def nclr (a b:Nat):Nat:=a ^^^ (a &&& b)
theorem testBit_nclr (a b i:Nat):(nclr a b).testBit i=(a.testBit i && !b.testBit i):=by
 simp only[nclr,Nat.testBit_xor,Nat.testBit_and]
 cases a.testBit i<;>cases b.testBit i<;>rfl
theorem nclr_lt {a b n:Nat} (h:a<2 ^ n):nclr a b<2 ^ n:=Nat.xor_lt_two_pow h (Nat.lt_of_le_of_lt Nat.and_le_left h)
theorem binop_shr {k j:IntKind} {a b:Int} (hb:0≤b):binop P .shr t ox oy (.int k a) (.int j b)=some (.int k (a.fdiv (2 ^ (min b.toNat k.bits)))):=by
 refine binop_of P t ox oy rfl rfl rfl ?_
 simp[eqGuard,Go.binOp,Op.shift,Int.not_lt.2 hb];rfl
theorem binop_shl {k j:IntKind} {a b:Int} (hb:0≤b):binop P .shl t ox oy (.int k a) (.int j b)=some (.int k (k.wrap (a*2 ^ (min b.toNat k.bits)))):=by
 refine binop_of P t ox oy rfl rfl rfl ?_
 simp[eqGuard,Go.binOp,Op.shift,Int.not_lt.2 hb];rfl
theorem binop_quo {k:IntKind} {a b:Int} (hb:b≠0):binop P .quo t ox oy (.int k a) (.int k b)=some (.int k (k.wrap (a.tdiv b))):=by
 refine pu_int P t ox oy rfl ?_
 simp[eqGuard,Go.binOp,Op.intDiv,hb];rfl
theorem binop_rem {k:IntKind} {a b:Int} (hb:b≠0):binop P .rem t ox oy (.int k a) (.int k b)=some (.int k (a.tmod b)):=by
 refine pu_int P t ox oy rfl ?_
 simp[eqGuard,Go.binOp,Op.intDiv,hb];rfl
end
theorem unary_not (P:Program) (b:Bool):(bif plain (.bool b) then pureVal P (Op.unary .not (.bool b)) else none)=some (.bool (!b)):=rfl
theorem unary_neg (P:Program) (k:IntKind) (n:Int):(bif plain (.int k n) then pureVal P (Op.unary .neg (.int k n)) else none)=some (.int k (k.wrap (-n))):=by
 show some (Value.int k (k.wrap (0 - n)))=_
 rw[Int.zero_sub]
end Go.Id
