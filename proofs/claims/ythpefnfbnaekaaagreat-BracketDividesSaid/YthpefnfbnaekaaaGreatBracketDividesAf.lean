/-
  Weakest preconditions over the ideal machine, second part: what the simplifier needs for one step: slots, numbers, memory; calls, loops. Weakest preconditions over the ideal machine, third part: memory, types, calls, loops.
-/
import Derived.Test.YthpefnfbnaekaaaGreatBracketDividesAe
import Derived.IntWalk
import Derived.OpenShut
import Derived.ChangeStays
import Derived.ChangeSame
import Derived.Deep.Slices
import Derived.Test.YthpefnfbnaekaaaGreatRows
import Derived.ProofKit
set_option linter.unusedVariables false
set_option linter.unusedSimpArgs false
set_option linter.defProp false
set_option linter.deprecated false
namespace Go.Id
open Go
@[simp] theorem fget_nil (t:Nat):fget [] t=none:=rfl
@[simp] theorem fget_cons (s:Nat) (v:Value) (r:Fr) (t:Nat):fget ((s,v) :: r) t=if s=t then some v else fget r t:=by
 simp[fget,cond_eq_ite]
@[simp] theorem opd_tmp (fr:Fr) (t:Nat):opd fr (.tmp t)=fget fr t:=rfl
@[simp] theorem opd_func (fr:Fr) (f:FuncId):opd fr (.func f)=some (.func (.func f) #[] #[]):=rfl
theorem opd_global (fr:Fr) (g:Nat) (h:g<4294967296):opd fr (.global g)=some (ptr (2*g+1) 0):=by
 have:Nat.blt g 4294967296=true:=by simp only[Nat.blt,Nat.ble_eq];exact h
 simp only[opd,this,cond_true];rfl
@[simp] theorem opd_const_int (fr:Fr) (k:IntKind) (n:Int):opd fr (.const (.int k n))=some (.int k n):=rfl
@[simp] theorem opd_const_bool (fr:Fr) (b:Bool):opd fr (.const (.bool b))=some (.bool b):=rfl
@[simp] theorem opd_const_string (fr:Fr) (b:ByteArray):opd fr (.const (.string b))=some (.string b):=rfl
@[simp] theorem opd_const_nilFunc (fr:Fr):opd fr (.const .nilFunc)=some .nilFunc:=rfl
@[simp] theorem opd_const_nilSlice (fr:Fr):opd fr (.const (.slice none 0 0))=some (.slice none 0 0):=rfl
@[simp] theorem opd_const_nilPtr (fr:Fr):opd fr (.const (.pointer none))=some (.pointer none):=rfl
@[simp] theorem opd_const_nilMap (fr:Fr):opd fr (.const (.map none))=some (.map none):=rfl
@[simp] theorem opds_nil (fr:Fr):opds fr []=some []:=rfl
@[simp] theorem opds_cons (fr:Fr) (x:Operand) (l:List Operand):opds fr (x :: l)=(opd fr x).bind fun v=>(opds fr l).map (v :: ·):=by
 simp only[opds];cases opd fr x<;>cases opds fr l<;>rfl
@[simp] theorem partsOf_nil (fr:Fr):partsOf fr []=some []:=rfl
@[simp] theorem partsOf_cons (fr:Fr) (i:Nat) (x:Operand) (l:List (Nat×Operand)):partsOf fr ((i,x) :: l)=(opd fr x).bind fun v=>(partsOf fr l).map ((i,v) :: ·):=by
 simp only[partsOf];cases opd fr x<;>cases partsOf fr l<;>rfl
@[simp] theorem optOpd_none (fr:Fr):optOpd fr none=some none:=rfl
@[simp] theorem optOpd_some (fr:Fr) (x:Operand):optOpd fr (some x)=(opd fr x).map some:=rfl
@[simp] theorem enterFr_nil (i:Nat):enterFr i [] = []:=rfl
@[simp] theorem enterFr_cons (i:Nat) (v:Value) (l:List Value):enterFr i (v :: l)=(i,v) :: enterFr (i+1) l:=rfl
@[simp] theorem wpPut_none (nt:Nat) (fr:Fr) (v:Value) (K:Fr→Prop):wpPut nt fr none v K=K fr:=rfl
@[simp] theorem wpPut_some (nt:Nat) (fr:Fr) (d:Nat) (v:Value) (K:Fr→Prop) (hd:d<nt):wpPut nt fr (some d) v K=K ((d,v) :: fr):=by
 have:Nat.blt d nt=true:=by simp only[Nat.blt,Nat.ble_eq];exact hd
 simp[wpPut,this]
@[congr] theorem wpPut_congr {nt:Nat} {fr fr':Fr} {d:Option Tmp} {v v':Value} {K:Fr→Prop} (a:fr=fr') (b:v=v'):wpPut nt fr d v K=wpPut nt fr' d v' K:=by rw[a,b]
@[congr] theorem wpOps_congr {P:Program} {nt:Nat} {all l:List Oper} {fr fr':Fr} {h h':IH} {K:Fr→IH→Prop} (a:fr=fr') (b:h=h'):wpOps P nt all l fr h K=wpOps P nt all l fr' h' K:=by rw[a,b]
@[congr] theorem wpTrace_congr {P:Program} {nt:Nat} {all l:List Oper} {fr fr':Fr} {h h':IH} {tr:List (Fr×IH)} {K:List (Fr×IH)→Prop} (a:fr=fr') (b:h=h'):wpTrace P nt all l fr h tr K=wpTrace P nt all l fr' h' tr K:=by rw[a,b]
@[congr] theorem wpOp_congr {P:Program} {o:Op} {fr fr':Fr} {h h':IH} {K:Value→IH→Prop} (a:fr=fr') (b:h=h'):wpOp P o fr h K=wpOp P o fr' h' K:=by rw[a,b]
@[congr] theorem wpC_congr {P:Program} {fn:FuncId} {nt:Nat} {rd:Option Nat} {c:Code} {fr fr':Fr} {h h':IH} {Q:IExit→Fr→IH→Prop} (a:fr=fr') (b:h=h'):wpC P fn nt rd c fr h Q=wpC P fn nt rd c fr' h' Q:=by rw[a,b]
section
variable (P:Program) (fr:Fr) (h:IH) (K:Value→IH→Prop)
theorem wpOp_pick (c a b:Operand):wpOp P (.pick c a b) fr h K=Ex (opd fr c) fun c=>Ex (opd fr a) fun a=>Ex (opd fr b) fun b=>c=.bool true∧K a h∨c=.bool false∧K b h:=rfl
def fieldAt (P:Program) (t:TypeId) (f:Nat):Option Nat:=(fieldOf P t f).bind fun d=>(sizeT P d.type).bind fun n=>if n=0 then none else some d.offset
theorem wpOp_fieldAddr (t:TypeId) (x:Operand) (f:Nat):wpOp P (.fieldAddr t x f) fr h K=Ex (opd fr x) fun x=>Ex (asAddr x) fun a=>Ex (fieldAt P t f) fun off=>K (ptr a.1 (a.2+off)) h:=by
 simp only[wpOp,fieldAt,Ex,eq_iff_iff]
 constructor
 ·rintro⟨x,h1,d,h2,a,h3,n,h4,h5,k⟩
  exact⟨x,h1,a,h3,d.offset,by simp[h2,h4,h5],k⟩
 ·rintro⟨x,h1,a,h3,off,h2,k⟩
  cases hd:fieldOf P t f with
  | none=>simp[hd] at h2
  | some d =>
   cases hn:sizeT P d.type with
   | none=>simp[hd,hn] at h2
   | some n =>
    simp only[hd,hn,Option.bind_some] at h2
    split at h2
    ·cases h2
    ·rename_i h0;cases h2;exact⟨x,h1,d,rfl,a,h3,n,hn,h0,k⟩
theorem Ex_bind {α β:Type} (o:Option α) (f:α→Option β) (K:β→Prop):Ex (o.bind f) K=Ex o fun v=>Ex (f v) K:=by cases o<;>simp[Ex]
theorem wpOp_unOp (op:UnOp) (t:TypeId) (x:Operand):wpOp P (.unOp op t x) fr h K=Ex (opd fr x) fun v=>Ex (bif plain v then pureVal P (Op.unary op v) else none) fun v=>K v h:=by
 show Ex (iop P fr (.unOp op t x) h) _=_
 simp only[iop]
 cases opd fr x with
 | none=>simp
 | some v=>cases hp:plain v<;>simp[hp]
def convV (P:Program) (s d:TypeId) (v:Value):Option Value:=bif plain v then pureVal P (Go.convert s d v) else none
theorem wpOp_convert (s d:TypeId) (x:Operand):wpOp P (.convert s d x) fr h K=Ex (opd fr x) fun v=>Ex (convV P s d v) fun v=>K v h:=by
 show Ex (iop P fr (.convert s d x) h) _=_
 simp only[iop,convV]
 cases opd fr x with
 | none=>simp
 | some v=>cases hp:plain v<;>simp[hp]
theorem wpOp_makeSlice (t:TypeId) (l c:Operand):wpOp P (.makeSlice t l c) fr h K=Ex (opd fr l) fun l=>Ex (opd fr c) fun c=>Ex (makeSlice P h t l c) fun r=>K r.1 r.2:=by
 show Ex (iop P fr (.makeSlice t l c) h) _=_
 simp only[iop]
 cases opd fr l<;>cases opd fr c<;>simp
theorem wpOp_buildSlice (t:TypeId) (n:Nat) (ps:Array (Nat×Operand)):wpOp P (.buildSlice t n ps) fr h K=Ex (partsOf fr ps.toList) fun ps=>Ex (buildSlice P h t n ps) fun r=>K r.1 r.2:=by
 show Ex (iop P fr (.buildSlice t n ps) h) _=_
 simp only[iop]
 cases partsOf fr ps.toList<;>simp
theorem wpOp_slice (t:TypeId) (x:Operand) (lo hi mx:Option Operand):wpOp P (.slice t x lo hi mx) fr h K=Ex (opd fr x) fun x=>Ex (optOpd fr lo) fun lo=>Ex (optOpd fr hi) fun hi=>Ex (optOpd fr mx) fun mx=>Ex (sliceOp P h t x lo hi mx) fun v=>K v h:=by
 show Ex (iop P fr (.slice t x lo hi mx) h) _=_
 simp only[iop]
 cases opd fr x with
 | none=>simp
 | some x=>cases optOpd fr lo with
  | none=>simp
  | some lo=>cases optOpd fr hi with
   | none=>simp
   | some hi=>cases optOpd fr mx<;>simp
def buildV (P:Program) (t:TypeId) (ps:List (Nat×Value)):Option Value :=
 (zeroCellsT P t).bind fun z=>bif allSized P t then (fillP (placeOf P t) z ps).map fun cs=>.agg cs.toArray else none
theorem wpOp_build (t:TypeId) (ps:Array (Nat×Operand)):wpOp P (.build t ps) fr h K=Ex (partsOf fr ps.toList) fun ps=>Ex (buildV P t ps) fun v=>K v h:=by
 show Ex (iop P fr (.build t ps) h) _=_
 simp only[iop,buildV]
 cases zeroCellsT P t<;>cases partsOf fr ps.toList<;>cases allSized P t<;>simp
def fieldV (P:Program) (t:TypeId) (f:Nat) (x:Value):Option Value :=
 match x with
 | .agg cs=>(fieldOf P t f).bind fun d=>partOf P d.type cs d.offset
 | _=>none
theorem wpOp_field (t:TypeId) (x:Operand) (f:Nat):wpOp P (.field t x f) fr h K=Ex (opd fr x) fun x=>Ex (fieldV P t f x) fun v=>K v h:=by
 show Ex (iop P fr (.field t x f) h) _=_
 simp only[iop]
 cases hx:opd fr x with
 | none=>simp
 | some v =>
  cases v<;>(try (simp[fieldV];done))
  cases hf:fieldOf P t f with
  | none=>simp[fieldV,hf]
  | some d=>simp[fieldV,hf]
theorem wpOp_nilCheck (x:Operand):wpOp P (.nilCheck x) fr h K=Ex (opd fr x) fun x=>match x with
  | .pointer (some a)=>K (.pointer (some a)) h
  | .func (.func f) xs ys=>K (.func (.func f) xs ys) h
  | .func (.yield f) xs ys=>K (.func (.yield f) xs ys) h
  | .map r=>K (.map r) h
  | _=>False:=by
 show Ex (iop P fr (.nilCheck x) h) _=_
 simp only[iop]
 cases hx:opd fr x with
 | none=>simp
 | some v =>
  cases v with
  | pointer a=>cases a<;>simp
  | func f xs ys=>cases f<;>simp
  | _=>simp
theorem wpOp_lookup (t:TypeId) (m k:Operand) (ok:Bool):wpOp P (.lookup t m k ok) fr h K=Ex (opd fr m) fun m=>Ex (opd fr k) fun k=>Ex (lookup P h t m k ok) fun v=>K v h:=by
 show Ex (iop P fr (.lookup t m k ok) h) _=_
 simp only[iop]
 cases opd fr m<;>cases opd fr k<;>simp
theorem wpOp_mapUpdate (t:TypeId) (m k v:Operand):wpOp P (.mapUpdate t m k v) fr h K=Ex (opd fr m) fun m=>Ex (opd fr k) fun k=>Ex (opd fr v) fun v=>Ex (mapUpdate P h t m k v) fun h=>K undef h:=by
 show Ex (iop P fr (.mapUpdate t m k v) h) _=_
 simp only[iop]
 cases opd fr m<;>cases opd fr k<;>cases opd fr v<;>simp
theorem wpOp_insert (t:TypeId) (m k v:Operand):wpOp P (.insert t m k v) fr h K=Ex (opd fr m) fun m=>Ex (opd fr k) fun k=>Ex (opd fr v) fun v=>Ex (mapUpdate P h t m k v) fun h=>K undef h:=wpOp_mapUpdate P fr h K t m k v
theorem wpOp_makeMap (t:TypeId):wpOp P (.makeMap t none) fr h K=K (.map (some (2*h.n))) (h.new (.map [])):=by
 show Ex (iop P fr (.makeMap t none) h) _=_
 simp[iop]
def indexV (P:Program) (t:TypeId) (x i:Value):Option Value :=
 match x with
 | .agg cs=>match P.underlying t,idxOf i with
   | some (.array n e),some (.ofNat j)=>bif Nat.blt j n then (sizeT P e).bind fun size=>partOf P e cs (j*size) else none
   | _,_=>none
 | .string s=>bif plain i then pureVal P (Instr.index t (.string s) i) else none
 | _=>none
theorem wpOp_index (t:TypeId) (x i:Operand):wpOp P (.index t x i) fr h K=Ex (opd fr x) fun x=>Ex (opd fr i) fun i=>Ex (indexV P t x i) fun v=>K v h:=by
 show Ex (iop P fr (.index t x i) h) _=_
 simp only[iop]
 cases hx:opd fr x with
 | none=>simp
 | some v =>
  cases hi:opd fr i with
  | none=>cases v<;>simp
  | some i =>
   cases v<;>(try (simp[indexV];done))
   ·simp only[indexV,Ex_some]
    cases hp:plain i<;>simp[]
   ·rename_i cs
    simp only[indexV,Ex_some]
    cases hu:P.underlying t with
    | none=>simp
    | some d =>
     cases hi':idxOf i with
     | none=>cases d<;>simp
     | some z =>
      cases d<;>(try (simp;done))
      cases z with
      | negSucc z=>simp
      | ofNat j =>
       rename_i n e
       simp only
       cases hb:Nat.blt j n<;>simp
       cases sizeT P e<;>simp
end
section
variable (P:Program) (t:TypeId) (ox oy:Operand) (k:IntKind) (a b:Int)
theorem binop_of {op:BinOp} {x y v:Value} (hx:plain x=true) (hy:plain y=true) (hv:plain v=true) (hr:pureRun P (do eqGuard op t ox oy x y;Go.binOp op t x y)=some v):binop P op t ox oy x y=some v:=by
 simp[binop,hx,hy,pureVal,hr,hv]
@[simp] theorem binop_add:binop P .add t ox oy (.int k a) (.int k b)=some (.int k (k.wrap (a+b))) :=
 binop_of P t ox oy rfl rfl rfl (by simp[eqGuard,Go.binOp,Op.intArith];rfl)
@[simp] theorem binop_sub:binop P .sub t ox oy (.int k a) (.int k b)=some (.int k (k.wrap (a - b))) :=
 binop_of P t ox oy rfl rfl rfl (by simp[eqGuard,Go.binOp,Op.intArith];rfl)
@[simp] theorem binop_mul:binop P .mul t ox oy (.int k a) (.int k b)=some (.int k (k.wrap (a*b))) :=
 binop_of P t ox oy rfl rfl rfl (by simp[eqGuard,Go.binOp,Op.intArith];rfl)
@[simp] theorem binop_eql:binop P .eql t ox oy (.int k a) (.int k b)=some (.bool (a == b)) :=
 binop_of P t ox oy rfl rfl rfl (by simp[eqGuard,Go.binOp,Op.intCmp];rfl)
@[simp] theorem binop_neq:binop P .neq t ox oy (.int k a) (.int k b)=some (.bool (a != b)) :=
 binop_of P t ox oy rfl rfl rfl (by simp[eqGuard,Go.binOp,Op.intCmp];rfl)
@[simp] theorem binop_lss:binop P .lss t ox oy (.int k a) (.int k b)=some (.bool (decide (a<b))) :=
 binop_of P t ox oy rfl rfl rfl (by simp[eqGuard,Go.binOp,Op.intCmp];rfl)
@[simp] theorem binop_leq:binop P .leq t ox oy (.int k a) (.int k b)=some (.bool (decide (a≤b))) :=
 binop_of P t ox oy rfl rfl rfl (by simp[eqGuard,Go.binOp,Op.intCmp];rfl)
@[simp] theorem binop_gtr:binop P .gtr t ox oy (.int k a) (.int k b)=some (.bool (decide (b<a))) :=
 binop_of P t ox oy rfl rfl rfl (by simp[eqGuard,Go.binOp,Op.intCmp];rfl)
@[simp] theorem binop_geq:binop P .geq t ox oy (.int k a) (.int k b)=some (.bool (decide (b≤a))) :=
 binop_of P t ox oy rfl rfl rfl (by simp[eqGuard,Go.binOp,Op.intCmp];rfl)
end
end Go.Id

namespace Go.Id
open Go
@[simp] theorem new_n (h:IH) (o:IObj):(h.new o).n=h.n+1:=rfl
@[simp] theorem new_base (h:IH) (o:IObj):(h.new o).base=h.base:=rfl
@[simp] theorem new_fams (h:IH) (o:IObj):(h.new o).fams=h.fams:=rfl
theorem get_new (h:IH) (o:IObj) (k:Nat):(h.new o).ext.get k=if k=h.n then some o else h.ext.get k:=by simp[IH.new,Tr.get_set]
def IH.put (h:IH) (k:Nat) (o:IObj):IH:={ h with ext:=h.ext.set k o }
@[simp] theorem put_n (h:IH) (k:Nat) (o:IObj):(h.put k o).n=h.n:=rfl
@[simp] theorem put_base (h:IH) (k:Nat) (o:IObj):(h.put k o).base=h.base:=rfl
@[simp] theorem put_fams (h:IH) (k:Nat) (o:IObj):(h.put k o).fams=h.fams:=rfl
theorem get_put (h:IH) (k:Nat) (o:IObj) (j:Nat):(h.put k o).ext.get j=if j=k then some o else h.ext.get j:=by simp[IH.put,Tr.get_set]
theorem get_new_same (h:IH) (o:IObj) {k:Nat} (hk:k=h.n):(h.new o).ext.get k=some o:=by rw[get_new,if_pos hk]
theorem get_new_old (h:IH) (o:IObj) {k:Nat} (hk:k≠h.n):(h.new o).ext.get k=h.ext.get k:=by rw[get_new,if_neg hk]
theorem get_put_same (h:IH) (o:IObj) {k j:Nat} (hk:j=k):(h.put k o).ext.get j=some o:=by rw[get_put,if_pos hk]
theorem get_put_old (h:IH) (o:IObj) {k j:Nat} (hk:j≠k):(h.put k o).ext.get j=h.ext.get j:=by rw[get_put,if_neg hk]
def IH.cells (h:IH) (k:Nat):Option (List Value):=match h.ext.get k with
 | some (.cells cs _ _)=>some cs
 | _=>none
theorem cells_of {h:IH} {k:Nat} {cs:List Value} {e:Nat} {f:Option Nat} (hk:h.ext.get k=some (.cells cs e f)):h.cells k=some cs:=by simp[IH.cells,hk]
theorem row_even (h:IH) (k:Nat):h.row (2*k)=h.cells k:=by
 have h1:(2*k) % 2=0:=by omega
 have h2:2*k / 2=k:=by omega
 simp only[IH.row,h1,h2,IH.cells];rfl
theorem row_new_same (h:IH) (cs:List Value) (e:Nat) (f:Option Nat) {b:Nat} (hb:b=2*h.n):(h.new (.cells cs e f)).row b=some cs:=by
 subst hb;rw[row_even];simp[IH.cells,get_new]
theorem row_new_old (h:IH) (o:IObj) {b:Nat} (hb:b≠2*h.n):(h.new o).row b=h.row b:=by
 simp only[IH.row,new_base,get_new,cond_eq_ite,beq_iff_eq]
 by_cases h1:b % 2=1
 ·simp[h1]
 ·rw[if_neg h1,if_neg h1,if_neg (by omega)]
theorem row_put_same (h:IH) (cs:List Value) (e:Nat) (f:Option Nat) {b k:Nat} (hb:b=2*k):(h.put k (.cells cs e f)).row b=some cs:=by
 subst hb;rw[row_even];simp[IH.cells,get_put]
theorem row_put_old (h:IH) (k:Nat) (o:IObj) {b:Nat} (hb:b≠2*k):(h.put k o).row b=h.row b:=by
 simp only[IH.row,put_base,get_put,cond_eq_ite,beq_iff_eq]
 by_cases h1:b % 2=1
 ·simp[h1]
 ·rw[if_neg h1,if_neg h1,if_neg (by omega)]
structure Ext (h h':IH):Prop where
 n:h.n≤h'.n
 base:h'.base=h.base
 get : ∀k,k<h.n→h'.ext.get k=h.ext.get k
 fams : ∀f,f<h.n→h'.fams.get f=h.fams.get f
@[simp] theorem Ext.refl (h:IH):Ext h h:=⟨Nat.le_refl _,rfl,fun _ _=>rfl,fun _ _=>rfl⟩
theorem Ext.trans {a b c:IH} (h:Ext a b) (k:Ext b c):Ext a c :=
 ⟨Nat.le_trans h.n k.n,k.base.trans h.base,fun x hx=>(k.get x (Nat.lt_of_lt_of_le hx h.n)).trans (h.get x hx),fun x hx=>(k.fams x (Nat.lt_of_lt_of_le hx h.n)).trans (h.fams x hx)⟩
theorem Ext.new {a b:IH} (h:Ext a b) (o:IObj):Ext a (b.new o) :=
 ⟨Nat.le_trans h.n (Nat.le_succ _),h.base,fun x hx=>by rw[get_new,if_neg (by have:=h.n;omega)];exact h.get x hx,fun x hx=>h.fams x hx⟩
theorem Ext.put {a b:IH} (h:Ext a b) {k:Nat} (hk:a.n≤k) (o:IObj):Ext a (b.put k o) :=
 ⟨h.n,h.base,fun x hx=>by rw[get_put,if_neg (by omega)];exact h.get x hx,fun x hx=>h.fams x hx⟩
theorem Ext.row {a b:IH} (h:Ext a b) {x:Nat} (hx:x % 2=1∨x<2*a.n):b.row x=a.row x:=by
 simp only[IH.row,h.base,cond_eq_ite,beq_iff_eq]
 by_cases h1:x % 2=1
 ·rw[if_pos h1,if_pos h1]
 ·rw[if_neg h1,if_neg h1,h.get _ (by omega)]
theorem Ext.cells {a b:IH} (h:Ext a b) {k:Nat} (hk:k<a.n):b.cells k=a.cells k:=by simp[IH.cells,h.get k hk]
def ld (h:IH) (b o:Nat):Option Value:=(h.row b).bind (·[o]?)
theorem ld_of {h:IH} {b o:Nat} {cs:List Value} (hr:h.row b=some cs):ld h b o=cs[o]?:=by simp[ld,hr]
theorem load_scal {P:Program} {t:TypeId} (hT:isAggT P t=some false) (h:IH) (b o:Nat):load P h t (ptr b o)=ld h b o:=by
 simp only[load,asAddr,ptr,hT,IH.rd,ld]
 cases sizeT P t <;>
 (cases hr:h.row b with
  | none=>rfl
  | some cs =>
   simp only[Option.bind_some,cond_eq_ite,Nat.ble_eq]
   by_cases hl:o+1≤cs.length
   ·rw[if_pos hl]
    simp only[Option.bind_some]
    rw[List.head?_take,if_neg (by omega),List.head?_drop]
   ·rw[if_neg hl,List.getElem?_eq_none (by omega)];rfl)
theorem load_agg {P:Program} {t:TypeId} {n:Nat} (hT:isAggT P t=some true) (hn:sizeT P t=some n) (h:IH) (b o:Nat):load P h t (ptr b o)=(h.rd b o n).map fun cs=>.agg cs.toArray:=by
 simp only[load,asAddr,ptr,hT,hn]
@[simp] theorem asAddr_ptr (b o:Nat):asAddr (ptr b o)=some (b,o):=rfl
theorem rd_of {h:IH} {b o n:Nat} {cs:List Value} (hr:h.row b=some cs):h.rd b o n=if o+n≤cs.length then some ((cs.drop o).take n) else none:=by
 simp[IH.rd,hr,cond_eq_ite]
@[simp] theorem cells_int (k:IntKind) (n:Int):(Value.int k n).cells = #[.int k n]:=rfl
@[simp] theorem cells_bool (b:Bool):(Value.bool b).cells = #[.bool b]:=rfl
@[simp] theorem cells_slice (a:Option Addr) (n c:Nat):(Value.slice a n c).cells = #[.slice a n c]:=rfl
@[simp] theorem cells_ptr (b o:Nat):(ptr b o).cells = #[ptr b o]:=rfl
@[simp] theorem cells_agg (cs:Array Value):(Value.agg cs).cells=cs:=rfl
@[simp] theorem cells_func (f:Fn) (a b:Array Value):(Value.func f a b).cells = #[.func f a b]:=rfl
@[simp] theorem cells_nilFunc:(Value.nilFunc).cells = #[.nilFunc]:=rfl
@[simp] theorem cells_map (r:Option Nat):(Value.map r).cells = #[.map r]:=rfl
@[simp] theorem cells_nilPtr:(Value.pointer none).cells = #[.pointer none]:=rfl
theorem wv_enter {P:Program} {f:FuncId} {fn:Func} {c:Code} {nt:Nat} {rs:List ResultVar} {first cap:Array Value} {vs:List Value} {h:IH} {K:Value→IH→Prop}
  (hf:P.funcs[f]?=some fn) (hb:fn.body=some c) (hn:fn.ntmps=nt) (hr:fn.results.toList=rs) (hl:(first.toList ++ (vs ++ cap.toList)).length≤nt)
  (w:wpC P f nt none c (enterFr 0 (first.toList ++ (vs ++ cap.toList))) h fun e fr h=>match e with
   | .exit _=>False
   | .normal=>Ex (resultsOf P fr h rs) fun l=>K (single l) h
   | .ret=>Ex (resultsOf P fr h rs) fun l=>K (single l) h):WV P (.func (.func f) first cap) vs h K:=by
 subst hn;subst hr
 obtain⟨⟨e,fr,h1⟩,⟨N,hN⟩,k⟩:=wpC_sound w
 have key : ∃l,resultsOf P fr h1 fn.results.toList=some l∧K (single l) h1 ∧ ∀i,e≠.exit i:=by
  cases e with
  | exit i=>exact k.elim
  | normal=>obtain⟨l,a,b⟩:=k;exact⟨l,a,b,fun i hi=>by cases hi⟩
  | ret=>obtain⟨l,a,b⟩:=k;exact⟨l,a,b,fun i hi=>by cases hi⟩
 obtain⟨l,hl1,k,hne⟩:=key
 refine⟨(single l,h1),⟨N+1,fun n hn=>?_⟩,k⟩
 obtain⟨n,rfl⟩ : ∃m,n=m+1:=⟨n - 1,by omega⟩
 have h2:=hN n (by omega)
 simp only at h2
 have hble:Nat.ble (first.toList ++ (vs ++ cap.toList)).length fn.ntmps=true:=by simpa [Nat.ble_eq] using hl
 have hf':(E0 P).P.funcs[f]?=some fn:=hf
 simp only[callV,callFn,show(E0 P).intr f=none from rfl,hf',hb,hble,cond_true,h2]
 cases e with
 | exit i=>exact absurd rfl (hne i)
 | normal=>simp[E0,hl1]
 | ret=>simp[E0,hl1]
@[simp] theorem resultsOf_nil (P:Program) (fr:Fr) (h:IH):resultsOf P fr h []=some []:=rfl
@[simp] theorem resultsOf_cons (P:Program) (fr:Fr) (h:IH) (r:ResultVar) (l:List ResultVar):resultsOf P fr h (r :: l)=(resultOf P fr h r).bind fun v=>(resultsOf P fr h l).map (v :: ·):=by
 simp only[resultsOf];cases resultOf P fr h r<;>cases resultsOf P fr h l<;>rfl
@[simp] theorem resultOf_tmp (P:Program) (fr:Fr) (h:IH) (t:Tmp):resultOf P fr h (.tmp t)=fget fr t:=rfl
@[simp] theorem resultOf_cell (P:Program) (fr:Fr) (h:IH) (a:Tmp) (t:TypeId):resultOf P fr h (.cell a t)=(fget fr a).bind fun v=>load P h t v:=by
 simp only[resultOf];cases fget fr a<;>rfl
theorem wloop {P:Program} {fn:FuncId} {nt:Nat} {rd:Option Nat} {b:Code} {Q:IExit→Fr→IH→Prop} (I:Nat→Fr→IH→Prop)
  (step : ∀m fr h,I m fr h→wpC P fn nt rd b fr h fun e fr' h'=>match e with
   | .normal => ∃m',m'<m∧I m' fr' h'
   | .exit i=>Q (.exit i) fr' h'
   | .ret=>Q .ret fr' h') {fr:Fr} {h:IH} {m:Nat} (start:I m fr h) (hm:headOf b=none):WLoop P fn nt rd b fr h Q:=by
 have key : ∀m fr h,I m fr h → ∃r:IExit×Fr×IH,(∃N,∀n,N≤n → ∀j,m+1≤j→loopN (evC (E0 P) (callV (E0 P) n) fn nt rd n b) j fr h=some r)∧Q r.1 r.2.1 r.2.2:=by
  intro m
  induction m using Nat.strongRecOn with
  | _ m ih =>
   intro fr h hi
   obtain⟨⟨e,fr1,h1⟩,⟨N,hN⟩,k⟩:=wpC_sound (step m fr h hi)
   cases e with
   | normal =>
    obtain⟨m',hm,hi'⟩:=k
    obtain⟨r,⟨M,hM⟩,q⟩:=ih m' hm fr1 h1 hi'
    refine⟨r,⟨max N M,fun n hn j hj=>?_⟩,q⟩
    obtain⟨j,rfl⟩ : ∃i,j=i+1:=⟨j - 1,by omega⟩
    have e1:=hN n (Nat.le_trans (Nat.le_max_left _ _) hn)
    simp only at e1
    rw[loopN,e1]
    exact hM n (Nat.le_trans (Nat.le_max_right _ _) hn) j (by omega)
   | exit i =>
    refine⟨(.exit i,fr1,h1),⟨N,fun n hn j hj=>?_⟩,k⟩
    obtain⟨j,rfl⟩ : ∃i,j=i+1:=⟨j - 1,by omega⟩
    have e1:=hN n hn
    simp only at e1
    rw[loopN,e1]
   | ret =>
    refine⟨(.ret,fr1,h1),⟨N,fun n hn j hj=>?_⟩,k⟩
    obtain⟨j,rfl⟩ : ∃i,j=i+1:=⟨j - 1,by omega⟩
    have e1:=hN n hn
    simp only at e1
    rw[loopN,e1]
 obtain⟨r,⟨N,hN⟩,q⟩:=key m fr h start
 exact⟨r,⟨max N (m+1),fun n hn=>by
  have:=hN n (Nat.le_trans (Nat.le_max_left _ _) hn) n (Nat.le_trans (Nat.le_max_right _ _) hn)
  show evC (E0 P) (callV (E0 P) n) fn nt rd n (.loop b) fr h=some r
  rw[evC_loop,hm];exact this⟩,q⟩
theorem wpOp_mono {P:Program} {o:Op} {fr:Fr} {h:IH} {K L:Value→IH→Prop} (k : ∀v h,K v h→L v h) (w:wpOp P o fr h K):wpOp P o fr h L:=by
 cases o
 case call c =>
  cases hc:c.callee<;>simp only[wpOp,hc] at w ⊢
  ·exact Ex.mono w fun _ w=>Ex.mono w fun _ w=>WV.mono w k
  ·exact Ex.mono w fun _ w=>Ex.mono w fun _ w=>k _ _ w
 case pick=>exact Ex.mono w fun _ w=>Ex.mono w fun _ w=>Ex.mono w fun _ w=>w.imp (fun x=>⟨x.1,k _ _ x.2⟩) fun x=>⟨x.1,k _ _ x.2⟩
 case extract =>
  refine Ex.mono w fun v w=>?_
  split at w
  ·exact Ex.mono w fun _ w=>k _ _ w
  ·exact w.elim
 case makeFunc f _ _ =>
  refine Ex.mono w fun v w=>Ex.mono w fun u w=>?_
  cases f
  ·exact k _ _ w
  all_goals exact w.elim
 case fieldAddr=>exact Ex.mono w fun _ w=>Ex.mono w fun _ w=>Ex.mono w fun _ w=>Ex.mono w fun _ w=>⟨w.1,k _ _ w.2⟩
 all_goals
  first
   | exact Ex.mono w fun _ w=>Ex.mono w fun _ w=>Ex.mono w fun _ w=>k _ _ w
   | exact Ex.mono w fun _ w=>Ex.mono w fun _ w=>k _ _ w
   | exact Ex.mono w fun _ w=>k _ _ w
theorem wpPut_mono {nt:Nat} {fr:Fr} {d:Option Tmp} {v:Value} {K L:Fr→Prop} (k : ∀fr,K fr→L fr) (w:wpPut nt fr d v K):wpPut nt fr d v L:=by
 unfold wpPut at w ⊢
 split
 ·exact k _ w
 ·unfold Br at w ⊢;split<;>simp_all
theorem Br.mono {b:Bool} {p q p' q':Prop} (h1:p→p') (h2:q→q') (w:Br b p q):Br b p' q':=by cases b<;>simp_all
theorem wpOps_mono {P:Program} {nt:Nat} {all:List Oper} {K L:Fr→IH→Prop} (k : ∀fr h,K fr h→L fr h) : ∀{l:List Oper} {fr:Fr} {h:IH},wpOps P nt all l fr h K→wpOps P nt all l fr h L
 | [],_,_,w=>k _ _ w
 | o :: l,fr,h,w=>by
  unfold wpOps at w ⊢
  split at w
  ·exact wpOp_mono (fun v h w=>wpPut_mono (fun fr w=>wpOps_mono k w) w) w
  ·refine Ex.mono w fun d w=>Ex.mono w fun b w=>?_
   split at w
   ·exact Br.mono (fun w=>wpOp_mono (fun v h w=>wpPut_mono (fun fr w=>wpOps_mono k w) w) w) (fun w=>wpPut_mono (fun fr w=>wpOps_mono k w) w) w
   ·exact wpPut_mono (fun fr w=>wpOps_mono k w) w
   ·exact w
theorem wpTrace_mono {P:Program} {nt:Nat} {all:List Oper} {K L:List (Fr×IH)→Prop} (k : ∀t,K t→L t) : ∀{l:List Oper} {fr:Fr} {h:IH} {tr:List (Fr×IH)},wpTrace P nt all l fr h tr K→wpTrace P nt all l fr h tr L
 | [],_,_,_,w=>k _ w
 | o :: l,fr,h,tr,w=>by
  unfold wpTrace at w ⊢
  split at w
  ·exact wpOp_mono (fun v h w=>wpPut_mono (fun fr w=>wpTrace_mono k w) w) w
  ·refine Ex.mono w fun d w=>Ex.mono w fun b w=>?_
   split at w
   ·exact Br.mono (fun w=>wpOp_mono (fun v h w=>wpPut_mono (fun fr w=>wpTrace_mono k w) w) w) (fun w=>wpPut_mono (fun fr w=>wpTrace_mono k w) w) w
   ·exact wpPut_mono (fun fr w=>wpTrace_mono k w) w
   ·exact w
theorem wpC_mono {P:Program} {fn:FuncId} {nt:Nat} {rd:Option Nat} : ∀{c:Code} {Q R:IExit→Fr→IH→Prop} {fr:Fr} {h:IH},(∀e fr h,Q e fr h→R e fr h)→wpC P fn nt rd c fr h Q→wpC P fn nt rd c fr h R
 | .skip,_,_,_,_,k,w=>k _ _ _ w
 | .label _,_,_,_,_,k,w=>k _ _ _ w
 | .region _ _ draw,_,_,_,_,k,w=>by
  cases draw with
  | false=>exact wpOps_mono (k _) w
  | true=>exact⟨fun hc=>wpOps_mono (k _) (w.1 hc),fun hc=>⟨(w.2 hc).1,wpTrace_mono (fun t w=>⟨w.1,Ex.mono w.2 fun _ w=>k _ _ _ w⟩) (w.2 hc).2⟩⟩
 | .seq a b,Q,R,fr,h,k,w=>by
  refine wpC_mono (c:=a) (fun e fr h w=>?_) w
  cases e with
  | normal=>exact wpC_mono (c:=b) k w
  | exit i=>exact k _ _ _ w
  | ret=>exact k _ _ _ w
 | .cond c a b,Q,R,fr,h,k,w=>by
  refine Ex.mono w fun v w=>?_
  split at w
  ·exact Br.mono (fun w=>wpC_mono (c:=a) k w) (fun w=>wpC_mono (c:=b) k w) w
  ·exact w
 | .block id b,Q,R,fr,h,k,w=>by
  refine wpC_mono (c:=b) (fun e fr h w=>?_) w
  cases e with
  | normal=>exact k _ _ _ w
  | exit i=>exact Br.mono (k _ _ _) (k _ _ _) w
  | ret=>exact k _ _ _ w
 | .loop b,_,_,_,_,k,w=>Tm.mono w fun _ w=>k _ _ _ w
 | .scope b,_,_,_,_,k,w=>wpC_mono (c:=b) k w
 | .rangeFunc _ _ _ _,_,_,_,_,k,w=>Tm.mono w fun _ w=>k _ _ _ w
 | .exit _,_,_,_,_,k,w=>k _ _ _ w
 | .ret,_,_,_,_,k,w=>k _ _ _ w
 | .goto _,_,_,_,_,_,w=>w.elim
 | .refuse _,_,_,_,_,_,w=>w.elim
theorem wrap_i64 {x:Int} (h : -9223372036854775808≤x∧x≤9223372036854775807):IntKind.i64.wrap x=x:=IntWalk.i64_in x h
theorem wrap_u64 {x:Int} (h:0≤x∧x≤18446744073709551615):IntKind.u64.wrap x=x:=IntWalk.u64_in x h
theorem wrap_u8 {x:Int} (h:0≤x∧x≤255):IntKind.u8.wrap x=x:=IntWalk.u8_in x h
theorem wrap_u16 {x:Int} (h:0≤x∧x≤65535):IntKind.u16.wrap x=x:=IntWalk.u16_in x h
theorem wrap_u32 {x:Int} (h:0≤x∧x≤4294967295):IntKind.u32.wrap x=x:=IntWalk.u32_in x h
end Go.Id

namespace Go.Id
open Go
def elemSize (P:Program) (t:TypeId):Option Nat:=match P.underlying t with
 | some (.slice e)=>sizeT P e
 | _=>none
def arrOf (P:Program) (t:TypeId):Option (Nat×Nat):=match P.underlying t with
 | some (.array n e)=>(sizeT P e).map (n,·)
 | _=>none
def appT (P:Program) (t:TypeId):Option (Nat×Nat):=match P.underlying t with
 | some (.slice e)=>match sizeT P e,bytesT P e,zeroCellsT P e with
  | some size,some bytes,some zs=>bif size == 0 || (!(Nat.ble bytes 65536) || !(zs.length == size)) then none else some (size,bytes)
  | _,_,_=>none
 | _=>none
def makeT (P:Program) (t:TypeId):Option (Nat×Nat×List Value):=match P.underlying t with
 | some (.slice e)=>match sizeT P e,bytesT P e,zeroCellsT P e with
  | some n,some b,some z=>bif z.length == n then some (n,b,z) else none
  | _,_,_=>none
 | _=>none
def fieldPart (P:Program) (t:TypeId) (f:Nat):Option (Bool×Nat×Nat) :=
 (fieldOf P t f).bind fun d=>(isAggT P d.type).bind fun b=>(sizeT P d.type).map fun n=>(b,d.offset,n)
theorem fieldV_agg (P:Program) (t:TypeId) (f:Nat) (cs:Array Value) :
  fieldV P t f (.agg cs)=(fieldPart P t f).bind fun p=>if p.1=true then some (.agg (cs.extract p.2.1 (p.2.1+p.2.2))) else cs[p.2.1]?:=by
 simp only[fieldV,fieldPart]
 cases fieldOf P t f with
 | none=>rfl
 | some d =>
  simp only[Option.bind_some,partOf]
  cases ha:isAggT P d.type with
  | none=>rfl
  | some b =>
   cases hs:sizeT P d.type with
   | none =>
    cases b with
    | true=>rfl
    | false => -- a size is there where the kind is
     exfalso
     simp only[isAggT,Program.underlying,Option.map_eq_some_iff] at ha
     simp only[sizeT,Option.map_eq_none_iff] at hs
     obtain⟨x,h1,_⟩:=ha
     simp[hs] at h1
   | some n=>cases b<;>simp
def idxAt (i:Int) (n:Nat):Option Nat:=match i with
 | .ofNat j=>if j<n then some j else none
 | .negSucc _=>none
@[simp] theorem idxAt_nat {j n:Nat} (h:j<n):idxAt (j:Int) n=some j:=by
 show(if j<n then some j else none)=some j
 rw[if_pos h]
theorem indexAddr_slice (P:Program) (t:TypeId) (b o n c:Nat) (k:IntKind) (i:Int) :
  indexAddr P t (.slice (some ⟨b,o,none⟩) n c) (.int k i)=(elemSize P t).bind fun sz=>(idxAt i n).map fun j=>ptr b (o+j*sz):=by
 simp only[indexAddr,elemSize,idxOf]
 cases hu:P.underlying t with
 | none=>rfl
 | some d =>
  cases d<;>(try rfl)
  rename_i e
  simp only
  cases hs:sizeT P e with
  | none=>rfl
  | some sz =>
   cases i with
   | ofNat j =>
    simp only[idxAt,Option.bind_some,cond_eq_ite,Nat.blt,Nat.ble_eq,Nat.succ_le_iff]
    by_cases hj:j<n
    ·rw[if_pos hj,if_pos hj];rfl
    ·rw[if_neg hj,if_neg hj];rfl
   | negSucc j=>rfl
theorem indexAddr_arr (P:Program) (t:TypeId) (b o:Nat) (k:IntKind) (i:Int) :
  indexAddr P t (ptr b o) (.int k i)=(arrOf P t).bind fun a=>(idxAt i a.1).map fun j=>ptr b (o+j*a.2):=by
 simp only[indexAddr,arrOf,idxOf,ptr]
 cases hu:P.underlying t with
 | none=>rfl
 | some d =>
  cases d<;>(try rfl)
  rename_i n e
  simp only
  cases hs:sizeT P e with
  | none=>rfl
  | some sz =>
   cases i with
   | ofNat j =>
    simp only[idxAt,Option.bind_some,Option.map_some,cond_eq_ite,Nat.blt,Nat.ble_eq,Nat.succ_le_iff]
    by_cases hj:j<n
    ·rw[if_pos hj,if_pos hj];rfl
    ·rw[if_neg hj,if_neg hj];rfl
   | negSucc j=>rfl
theorem lenB_slice {P:Program} {t:TypeId} (hT:isSliceT P (some t)=true) (h:IH) (a:Option Addr) (n c:Nat):lenB P h t (.slice a n c)=some (.int .i64 n):=by
 unfold isSliceT at hT
 simp only at hT
 unfold lenB
 split at hT
 ·rename_i hu;simp[hu]
 ·cases hT
@[simp] theorem builtin_len (P:Program) (h:IH) (ts:Array TypeId) (x:Value):builtin P h .len ts [x]=(ts[0]?).bind fun t=>(lenB P h t x).map (·,h):=by
 simp only[builtin];cases ts[0]?<;>rfl
theorem builtin_append (P:Program) (h:IH) (s t:TypeId) (x y:Value) (hT:isSliceT P (some t)=true):builtin P h .append #[s,t] [x,y]=append P h s x y:=by
 have e1:(#[s,t]:Array TypeId)[1]?=some t:=rfl
 have e0:(#[s,t]:Array TypeId)[0]?=some s:=rfl
 simp only[builtin,e1,e0,hT,cond_true]
theorem pureVal_of {P:Program} {s:Sem Value} {v:Value} (h:pureRun P s=some v) (hv:plain v=true):pureVal P s=some v:=by simp[pureVal,h,hv]
theorem pureRun_underlying {P:Program} {t:TypeId} {d:TypeDesc} {α:Type} (hd:P.underlying t=some d) (f:TypeDesc→Sem α):pureRun P ((underlying t).bind f)=pureRun P (f d):=by
 have e:pureRun P ((underlying t).bind f)=pureRun P ((match P.underlying t with|some d=>(pure d:Sem TypeDesc)|none=>stuck "no such type").bind f):=rfl
 rw[e,hd]
 rfl
theorem convV_int {P:Program} {s d:TypeId} {k k':IntKind} {n:Int} (hs:(P.underlying s).isSome=true) (hd:P.underlying d=some (.int k')):convV P s d (.int k n)=some (.int k' (k'.wrap n)):=by
 obtain⟨ds,hs⟩:=Option.isSome_iff_exists.1 hs
 refine pureVal_of ?_ rfl
 unfold Go.convert
 show pureRun P (Sem.bind _ _)=_
 rw[pureRun_underlying hs]
 show pureRun P (Sem.bind _ _)=_
 rw[pureRun_underlying hd]
 cases ds<;>rfl
theorem wrap_land {k:IntKind} (a b:Nat) (ha:a<2 ^ k.bits) (hb:b<2 ^ k.bits):(BitVec.ofInt k.bits (a:Int) &&& BitVec.ofInt k.bits (b:Int)).toNat=a &&& b:=by
 simp[BitVec.toNat_and,Nat.mod_eq_of_lt ha,Nat.mod_eq_of_lt hb]
section
variable (P:Program) (t:TypeId) (ox oy:Operand)
theorem pu_int {op:BinOp} {k:IntKind} {x y:Int} {v:Value} (hv:plain v=true) (hr:pureRun P (do eqGuard op t ox oy (.int k x) (.int k y);Go.binOp op t (.int k x) (.int k y))=some v):binop P op t ox oy (.int k x) (.int k y)=some v :=
 binop_of P t ox oy rfl rfl hv hr
theorem binop_and_raw (k:IntKind) (a b:Int):binop P .and t ox oy (.int k a) (.int k b)=some (.int k (k.wrap (BitVec.ofInt k.bits a &&& BitVec.ofInt k.bits b).toNat)) :=
 pu_int P t ox oy rfl (by simp[eqGuard,Go.binOp,Op.intBits];rfl)
theorem binop_or_raw (k:IntKind) (a b:Int):binop P .or t ox oy (.int k a) (.int k b)=some (.int k (k.wrap (BitVec.ofInt k.bits a ||| BitVec.ofInt k.bits b).toNat)) :=
 pu_int P t ox oy rfl (by simp[eqGuard,Go.binOp,Op.intBits];rfl)
theorem binop_xor_raw (k:IntKind) (a b:Int):binop P .xor t ox oy (.int k a) (.int k b)=some (.int k (k.wrap (BitVec.ofInt k.bits a ^^^ BitVec.ofInt k.bits b).toNat)) :=
 pu_int P t ox oy rfl (by simp[eqGuard,Go.binOp,Op.intBits];rfl)
theorem binop_andNot_raw (k:IntKind) (a b:Int):binop P .andNot t ox oy (.int k a) (.int k b)=some (.int k (k.wrap (BitVec.ofInt k.bits a &&& ~~~BitVec.ofInt k.bits b).toNat)) :=
 pu_int P t ox oy rfl (by simp[eqGuard,Go.binOp,Op.intBits];rfl)
theorem wrap_nat_u64 {n:Nat} (h:n<2 ^ 64):IntKind.u64.wrap (n:Int)=n:=wrap_u64 (by omega)
theorem wrap_nat_i64 {n:Nat} (h:n<2 ^ 63):IntKind.i64.wrap (n:Int)=n:=wrap_i64 (by omega)
theorem and_lt {a b c:Nat} (h:a<c):a &&& b<c:=Nat.lt_of_le_of_lt Nat.and_le_left h
theorem or_lt {a b n:Nat} (ha:a<2 ^ n) (hb:b<2 ^ n):a ||| b<2 ^ n:=Nat.or_lt_two_pow ha hb
theorem binop_and_u64 (a b:Nat) (ha:a<18446744073709551616) (hb:b<18446744073709551616):binop P .and t ox oy (.int .u64 a) (.int .u64 b)=some (.int .u64 ((a &&& b:Nat):Int)):=by
 rw[binop_and_raw,wrap_land (k:=.u64) a b ha hb,wrap_nat_u64 (and_lt ha)]
theorem binop_or_u64 (a b:Nat) (ha:a<18446744073709551616) (hb:b<18446744073709551616):binop P .or t ox oy (.int .u64 a) (.int .u64 b)=some (.int .u64 ((a ||| b:Nat):Int)):=by
 have e:(BitVec.ofInt 64 (a:Int) ||| BitVec.ofInt 64 (b:Int)).toNat=a ||| b:=by simp[Nat.mod_eq_of_lt ha,Nat.mod_eq_of_lt hb]
 rw[binop_or_raw,show(BitVec.ofInt IntKind.u64.bits (a:Int) ||| BitVec.ofInt IntKind.u64.bits (b:Int)).toNat=a ||| b from e,wrap_nat_u64 (or_lt (n:=64) ha hb)]
def nclr (a b:Nat):Nat:=a ^^^ (a &&& b)
theorem testBit_nclr (a b i:Nat):(nclr a b).testBit i=(a.testBit i && !b.testBit i):=by
 simp only[nclr,Nat.testBit_xor,Nat.testBit_and]
 cases a.testBit i<;>cases b.testBit i<;>rfl
theorem nclr_lt {a b n:Nat} (h:a<2 ^ n):nclr a b<2 ^ n:=Nat.xor_lt_two_pow h (Nat.lt_of_le_of_lt Nat.and_le_left h)
theorem binop_shr {k j:IntKind} {a b:Int} (hb:0≤b):binop P .shr t ox oy (.int k a) (.int j b)=some (.int k (a.fdiv (2 ^ (min b.toNat k.bits)))):=by
 refine binop_of P t ox oy rfl rfl rfl ?_
 simp[eqGuard,Go.binOp,Op.shift,Int.not_lt.2 hb];rfl
theorem binop_shl {k j:IntKind} {a b:Int} (hb:0≤b):binop P .shl t ox oy (.int k a) (.int j b)=some (.int k (k.wrap (a*2 ^ (min b.toNat k.bits)))):=by
 refine binop_of P t ox oy rfl rfl rfl ?_
 simp[eqGuard,Go.binOp,Op.shift,Int.not_lt.2 hb];rfl
theorem binop_quo {k:IntKind} {a b:Int} (hb:b≠0):binop P .quo t ox oy (.int k a) (.int k b)=some (.int k (k.wrap (a.tdiv b))):=by
 refine pu_int P t ox oy rfl ?_
 simp[eqGuard,Go.binOp,Op.intDiv,hb];rfl
theorem binop_rem {k:IntKind} {a b:Int} (hb:b≠0):binop P .rem t ox oy (.int k a) (.int k b)=some (.int k (a.tmod b)):=by
 refine pu_int P t ox oy rfl ?_
 simp[eqGuard,Go.binOp,Op.intDiv,hb];rfl
end
theorem unary_not (P:Program) (b:Bool):(bif plain (.bool b) then pureVal P (Op.unary .not (.bool b)) else none)=some (.bool (!b)):=rfl
theorem unary_neg (P:Program) (k:IntKind) (n:Int):(bif plain (.int k n) then pureVal P (Op.unary .neg (.int k n)) else none)=some (.int k (k.wrap (-n))):=by
 show some (Value.int k (k.wrap (0 - n)))=_
 rw[Int.zero_sub]
end Go.Id

namespace Go.Id
open Go
structure Keep (h h':IH):Prop where
 n:h.n≤h'.n
 base:h'.base=h.base
 get : ∀k c e f,k<h.n→h.ext.get k=some (.cells c e f)→e≠0 → ∃f',h'.ext.get k=some (.cells c e f')
structure Grow (h h':IH):Prop where
 n:h.n≤h'.n
 base:h'.base=h.base
 get : ∀k,k<h.n→h'.ext.get k=h.ext.get k ∨ ∃c e f f',e≠0∧h.ext.get k=some (.cells c e f)∧h'.ext.get k=some (.cells c e f')
theorem Ext.grow {h h':IH} (e:Ext h h'):Grow h h':=⟨e.n,e.base,fun k hk=>.inl (e.get k hk)⟩
theorem Grow.keep {h h':IH} (g:Grow h h'):Keep h h':=⟨g.n,g.base,fun k c e f hk hg he=>by
 rcases g.get k hk with h1|⟨c1,e1,f1,f2,h0,h1,h2⟩
 ·exact⟨f,by rw[h1,hg]⟩
 ·rw[hg] at h1;cases h1;exact⟨f2,h2⟩⟩
theorem Ext.keep {h h':IH} (e:Ext h h'):Keep h h':=e.grow.keep
theorem Keep.refl (h:IH):Keep h h:=(Ext.refl h).keep
theorem Keep.trans {a b c:IH} (x:Keep a b) (y:Keep b c):Keep a c:=⟨Nat.le_trans x.n y.n,y.base.trans x.base,fun k cs e f hk hg he=>by
 obtain⟨f1,h1⟩:=x.get k cs e f hk hg he
 exact y.get k cs e f1 (Nat.lt_of_lt_of_le hk x.n) h1 he⟩
theorem Grow.refl (h:IH):Grow h h:=(Ext.refl h).grow
theorem Grow.trans {a b c:IH} (x:Grow a b) (y:Grow b c):Grow a c:=⟨Nat.le_trans x.n y.n,y.base.trans x.base,fun k hk=>by
 have hk2:=Nat.lt_of_lt_of_le hk x.n
 rcases x.get k hk with h1|⟨c1,e1,f1,f2,h0,h1,h2⟩
 ·rcases y.get k hk2 with h3|⟨c3,e3,f3,f4,h5,h6,h7⟩
  ·exact .inl (h3.trans h1)
  ·exact .inr ⟨c3,e3,f3,f4,h5,by rw[←h1];exact h6,h7⟩
 ·rcases y.get k hk2 with h3|⟨c3,e3,f3,f4,h5,h6,h7⟩
  ·exact .inr ⟨c1,e1,f1,f2,h0,h1,by rw[h3,h2]⟩
  ·rw[h2] at h6;cases h6;exact .inr ⟨c1,e1,f1,f4,h0,h1,h7⟩⟩
theorem Grow.new {a b:IH} (g:Grow a b) (o:IObj):Grow a (b.new o):=g.trans ((Ext.refl b).new o).grow
theorem Keep.new {a b:IH} (g:Keep a b) (o:IObj):Keep a (b.new o):=g.trans ((Ext.refl b).new o).keep
theorem Keep.put {a b:IH} (g:Keep a b) {k:Nat} {cs:List Value} {f:Option Nat} (hk:b.ext.get k=some (.cells cs 0 f)) (o:IObj):Keep a (b.put k o):=⟨g.n,g.base,fun j c e f1 hj hg he=>by
 obtain⟨f2,h2⟩:=g.get j c e f1 hj hg he
 refine⟨f2,?_⟩
 rw[get_put,if_neg]
 ·exact h2
 ·rintro rfl;rw[hk] at h2;cases h2;exact he rfl⟩
theorem Grow.box {a b:IH} (g:Grow a b) {k:Nat} (hk:k<a.n) {o:IObj} (ho:a.ext.get k=some o) (hne : ∀c e f,o=.cells c e f→e=0):b.ext.get k=some o:=by
 rcases g.get k hk with h1|⟨c1,e1,f1,f2,h0,h1,h2⟩
 ·rw[h1,ho]
 ·rw[ho] at h1;cases h1;exact absurd (hne _ _ _ rfl) h0
theorem Grow.var {a b:IH} (g:Grow a b) {k:Nat} (hk:k<a.n) {cs:List Value} {f:Option Nat} (ho:a.ext.get k=some (.cells cs 0 f)):b.ext.get k=some (.cells cs 0 f):=g.box hk ho fun c e f h=>by cases h;rfl
theorem Keep.row {a b:IH} (g:Keep a b) {x:Nat} {row:List Value} (hx:x % 2=1∨(x<2*a.n ∧ ∃e f,e≠0∧a.ext.get (x / 2)=some (.cells row e f))) (hr:a.row x=some row):b.row x=some row:=by
 rcases hx with hx|⟨hx,e,f,he,hg⟩
 ·rw[←hr];simp[IH.row,hx,g.base]
 ·obtain⟨f',h2⟩:=g.get (x / 2) row e f (by omega) hg he
  simp only[IH.row,cond_eq_ite,beq_iff_eq] at hr ⊢
  split
  ·rename_i h1;rw[if_pos h1] at hr;rw[g.base];exact hr
  ·rw[h2]
def SlOf (h:IH) (sz:Nat) (v:Value) (n:Nat) (cs:List Value):Prop :=
 0<sz∧cs.length=n*sz∧((v=.slice none 0 0∧n=0) ∨ ∃b o k,v=.slice (some ⟨b,o,none⟩) n k∧((n=0∧k=0) ∨
  (0<k∧n≤k / 2 ∧ ∃row,((b % 2=1∧k % 2=1)∨(b % 2=0∧b<2*h.n ∧ ∃f,h.ext.get (b / 2)=some (.cells row sz f)))∧h.row b=some row∧(row.drop o).take (n*sz)=cs∧o+n*sz≤row.length)))
def elemAddr (v:Value) (c:Nat):Value:=match v with
 | .slice (some ⟨b,o,none⟩) _ _=>ptr b (o+c)
 | _=>undef
theorem SlOf.keep {h h':IH} {sz:Nat} {v:Value} {n:Nat} {cs:List Value} (s:SlOf h sz v n cs) (e:Keep h h'):SlOf h' sz v n cs:=by
 obtain⟨hz,hl,s|⟨b,o,k,rfl,s⟩⟩:=s
 ·exact⟨hz,hl,.inl s⟩
 ·refine⟨hz,hl,.inr ⟨b,o,k,rfl,s.imp id fun⟨a1,a2,row,a3,h1,h2,h3⟩=>?_⟩⟩
  rcases a3 with a3|⟨a4,a5,f,a6⟩
  ·exact⟨a1,a2,row,.inl a3,e.row (.inl a3.1) h1,h2,h3⟩
  ·obtain⟨f',h4⟩:=e.get (b / 2) row sz f (by omega) a6 (by omega)
   exact⟨a1,a2,row,.inr ⟨a4,by have:=e.n;omega,f',h4⟩,e.row (.inr ⟨a5,sz,f,by omega,a6⟩) h1,h2,h3⟩
theorem SlOf.ext {h h':IH} {sz:Nat} {v:Value} {n:Nat} {cs:List Value} (s:SlOf h sz v n cs) (e:Ext h h'):SlOf h' sz v n cs:=s.keep e.keep
theorem SlOf.nil (h:IH) {sz:Nat} (hz:0<sz):SlOf h sz (.slice none 0 0) 0 []:=⟨hz,by simp,.inl ⟨rfl,rfl⟩⟩
theorem SlOf.form {h:IH} {sz:Nat} {v:Value} {n:Nat} {cs:List Value} (s:SlOf h sz v n cs) : ∃a k,v=.slice a n k:=by
 obtain⟨hz,hl,⟨rfl,rfl⟩|⟨b,o,k,rfl,s⟩⟩:=s
 ·exact⟨_,_,rfl⟩
 ·exact⟨_,_,rfl⟩
theorem SlOf.len {h:IH} {sz:Nat} {v:Value} {n:Nat} {cs:List Value} (s:SlOf h sz v n cs) {P:Program} {t:TypeId} (hT:isSliceT P (some t)=true) (h':IH):lenB P h' t v=some (.int .i64 n):=by
 obtain⟨a,k,rfl⟩:=s.form
 exact lenB_slice hT _ _ _ _
theorem SlOf.cells {h:IH} {sz:Nat} {v:Value} {n:Nat} {cs:List Value} (s:SlOf h sz v n cs):v.cells = #[v]:=by
 obtain⟨a,k,rfl⟩:=s.form;rfl
theorem SlOf.cok {h:IH} {sz:Nat} {v:Value} {n:Nat} {cs:List Value} (s:SlOf h sz v n cs):cellOK v=true:=by
 obtain⟨a,k,rfl⟩:=s.form;rfl
theorem SlOf.idx {h:IH} {sz:Nat} {v:Value} {n:Nat} {cs:List Value} (s:SlOf h sz v n cs) {P:Program} {t:TypeId} (hT:elemSize P t=some sz) {k:IntKind} {j:Nat} (hj:j<n):indexAddr P t v (.int k j)=some (elemAddr v (j*sz)):=by
 obtain⟨hz,hl,⟨rfl,rfl⟩|⟨b,o,k,rfl,s⟩⟩:=s
 ·omega
 ·rw[indexAddr_slice,hT];simp[elemAddr,idxAt_nat hj]
theorem SlOf.idxI {h:IH} {sz:Nat} {v:Value} {n:Nat} {cs:List Value} (s:SlOf h sz v n cs) {P:Program} {t:TypeId} (hT:elemSize P t=some sz) {k:IntKind} {i:Int} (h0:0≤i) (hj:i<n):indexAddr P t v (.int k i)=some (elemAddr v (i.toNat*sz)):=by
 obtain⟨j,rfl⟩:=Int.eq_ofNat_of_zero_le h0
 exact s.idx hT (by omega)
theorem SlOf.ld {h h':IH} {sz:Nat} {v:Value} {n:Nat} {cs:List Value} (s:SlOf h sz v n cs) (e:Keep h h') {c:Nat} (hc:c<cs.length) {P:Program} {t:TypeId} (hT:isAggT P t=some false):load P h' t (elemAddr v c)=cs[c]?:=by
 obtain⟨hz,hl,⟨rfl,rfl⟩|⟨b,o,k,rfl,s'⟩⟩:=s.keep e
 ·simp at hl;simp[hl] at hc
 ·obtain⟨rfl,_⟩|⟨a1,a2,row,a3,h1,h2,h3⟩:=s'
  ·simp at hl;simp[hl] at hc
  ·rw[elemAddr,load_scal hT,ld_of h1,←h2,List.getElem?_take]
   rw[if_pos (by omega),List.getElem?_drop]
theorem SlOf.ldAgg {h h':IH} {sz:Nat} {v:Value} {n:Nat} {cs:List Value} (s:SlOf h sz v n cs) (e:Keep h h') {c m:Nat} (hc:c+m≤cs.length) (hm:0<m) {P:Program} {t:TypeId} (hT:isAggT P t=some true) (hS:sizeT P t=some m) :
  load P h' t (elemAddr v c)=some (.agg ((cs.drop c).take m).toArray):=by
 obtain⟨hz,hl,⟨rfl,rfl⟩|⟨b,o,k,rfl,s'⟩⟩:=s.keep e
 ·simp at hl;simp[hl] at hc;omega
 ·obtain⟨rfl,_⟩|⟨a1,a2,row,a3,h1,h2,h3⟩:=s'
  ·simp at hl;simp[hl] at hc;omega
  ·rw[elemAddr,load_agg hT hS,rd_of h1,if_pos (by omega),←h2]
   simp only[Option.map_some,List.drop_take,List.take_take,List.drop_drop]
   rw[Nat.min_eq_left (by omega)]
theorem SlOf.slice {h h':IH} {sz:Nat} {v:Value} {n:Nat} {cs:List Value} (s:SlOf h sz v n cs) (kp:Keep h h') {P:Program} {t:TypeId} {e:TypeId} (hu:P.underlying t=some (.slice e)) (hT:sizeT P e=some sz) {l m:Nat} (hl:l≤m) (hm:m≤n) {lo hi:Option Value} (hlo:loOf lo m=some l) (hhi : ∀c,n≤c→hiOf hi n c=some m) :
  ∃v',sliceOp P h' t v lo hi none=some v'∧SlOf h sz v' (m - l) ((cs.drop (l*sz)).take ((m - l)*sz)):=by
 obtain⟨hz,hlen,⟨rfl,rfl⟩|⟨b,o,k,rfl,s⟩⟩:=s
 ·obtain rfl:m=0:=by omega
  obtain rfl:l=0:=by omega
  refine⟨.slice none 0 0,?_,hz,by simp,.inl ⟨rfl,rfl⟩⟩
  have:=hhi 0 (Nat.le_refl _)
  simp[sliceOp,hu,hT,resliced,boundsOf,this,hlo]
 ·obtain⟨rfl,rfl⟩|⟨a1,a2,row,a3,h1,h2,h3⟩:=s
  ·obtain rfl:m=0:=by omega
   obtain rfl:l=0:=by omega
   have:=hhi 0 (Nat.le_refl _)
   refine⟨.slice (some ⟨b,o,none⟩) 0 0,?_,hz,by simp,.inr ⟨b,o,0,rfl,.inl ⟨rfl,rfl⟩⟩⟩
   simp[sliceOp,hu,hT,resliced,boundsOf,this,hlo]
  ·have hh:=hhi (k / 2) a2
   have hk0:(k == 0)=false:=by simp;omega
   have hroom:(k % 2 == 1 || roomy h' sz (.slice (some ⟨b,o,none⟩) n k))=true:=by
    rcases a3 with a3|⟨a4,a5,f,a6⟩
    ·simp[a3.2]
    ·obtain⟨f',h4⟩:=kp.get (b / 2) row sz f (by omega) a6 (by omega)
     simp[roomy,a4,h4]
   by_cases hlk:l=k / 2
   ·have hml:m=l:=by omega
    subst hml
    have hlk':(m == k / 2)=true:=by simpa using hlk
    rcases Nat.mod_two_eq_zero_or_one k with hk|hk
    ·refine⟨.slice (some ⟨b,o,none⟩) 0 0,?_,hz,by simp,.inr ⟨b,o,0,by simp,.inl ⟨by omega,rfl⟩⟩⟩
     have hk':(k % 2 == 1)=false:=by simp[hk]
     simp only[sliceOp,hu,hT,resliced,boundsOf,hh,hlo,hk0,hlk',hk',cond_true,cond_false]
    ·refine⟨.slice (some ⟨b,o,none⟩) 0 1,?_,hz,by simp,.inr ⟨b,o,1,by simp,.inr ⟨by omega,by omega,row,a3.imp (fun x=>⟨x.1,rfl⟩) id,h1,by simp,by simp;omega⟩⟩⟩
     have hk':(k % 2 == 1)=true:=by simp[hk]
     simp only[sliceOp,hu,hT,resliced,boundsOf,hh,hlo,hk0,hlk',hk',cond_true,cond_false]
   ·have hlk':(l == k / 2)=false:=by simpa using hlk
    have hls:l*sz+(m - l)*sz=m*sz:=by rw[←Nat.add_mul];congr 1;omega
    have hmn:m*sz≤n*sz:=Nat.mul_le_mul_right _ hm
    refine⟨.slice (some ⟨b,o+l*sz,none⟩) (m - l) (k - 2*l),?_,hz,?_,.inr ⟨b,o+l*sz,k - 2*l,rfl,.inr ⟨by omega,by omega,row,?_,h1,?_,by omega⟩⟩⟩
    ·simp only[sliceOp,hu,hT,resliced,boundsOf,hh,hlo,hk0,hlk',hroom,cond_true,cond_false]
    ·rw[List.length_take,List.length_drop];omega
    ·rcases a3 with a3|a3
     ·exact .inl ⟨a3.1,by omega⟩
     ·exact .inr a3
    ·rw[←h2,List.drop_take,List.take_take,List.drop_drop,Nat.min_eq_left (by omega)]
theorem natOf_nat {k:IntKind} {l m:Nat} (h:l≤m):natOf (.int k (l:Int)) m=some l:=by
 show(bif Nat.ble l m then some l else none)=_
 rw[show Nat.ble l m=true from by rw[Nat.ble_eq];exact h];rfl
@[simp] theorem asAddr_elem {h:IH} {sz:Nat} {v:Value} {n:Nat} {cs:List Value} (s:SlOf h sz v n cs) {c:Nat} (hc:c<cs.length) : ∃b o,elemAddr v c=ptr b (o+c) ∧ ∀d,elemAddr v d=ptr b (o+d):=by
 obtain⟨hz,hl,⟨rfl,rfl⟩|⟨b,o,k,rfl,s⟩⟩:=s
 ·simp at hl;simp[hl] at hc
 ·exact⟨b,o,rfl,fun _=>rfl⟩
def TopFam (h:IH) (n0 k:Nat):Option Nat→Prop
 | none=>True
 | some f=>n0≤f∧f<h.n ∧ ∃rest,h.fams.get f=some (k :: rest) ∧ ∀j∈rest,n0≤j
def Acc (h:IH) (n0 sz:Nat) (v:Value) (n:Nat) (cs:List Value):Prop :=
 0<sz∧cs.length=n*sz∧((v=.slice none 0 0∧n=0) ∨ ∃k fam,v=.slice (some ⟨2*k,0,none⟩) n (2*n)∧0<n∧n0≤k∧k<h.n∧h.ext.get k=some (.cells cs sz fam)∧TopFam h n0 k fam)
theorem Acc.nil (h:IH) (n0:Nat) {sz:Nat} (hz:0<sz):Acc h n0 sz (.slice none 0 0) 0 []:=⟨hz,by simp,.inl ⟨rfl,rfl⟩⟩
theorem Acc.sl {h:IH} {n0 sz:Nat} {v:Value} {n:Nat} {cs:List Value} (a:Acc h n0 sz v n cs):SlOf h sz v n cs:=by
 obtain⟨hz,hl,a|⟨k,fam,rfl,hn,h1,h2,h3,h4⟩⟩:=a
 ·exact⟨hz,hl,.inl a⟩
 ·refine⟨hz,hl,.inr ⟨2*k,0,2*n,rfl,.inr ⟨by omega,by omega,cs,.inr ⟨by omega,by omega,fam,?_⟩,?_,?_,by omega⟩⟩⟩
  ·rw[show 2*k / 2=k from by omega,h3]
  ·rw[row_even];simp[IH.cells,h3]
  ·rw[List.drop_zero,List.take_of_length_le (by omega)]
theorem Acc.ext {h h':IH} {n0 sz:Nat} {v:Value} {n:Nat} {cs:List Value} (a:Acc h n0 sz v n cs) (e:Ext h h'):Acc h' n0 sz v n cs:=by
 obtain⟨hz,hl,a|⟨k,fam,rfl,hn,h1,h2,h3,h4⟩⟩:=a
 ·exact⟨hz,hl,.inl a⟩
 ·refine⟨hz,hl,.inr ⟨k,fam,rfl,hn,h1,by have:=e.n;omega,by rw[e.get k h2];exact h3,?_⟩⟩
  cases fam with
  | none=>trivial
  | some f =>
   obtain⟨a1,a2,rest,a3,a4⟩:=h4
   exact⟨a1,by have:=e.n;omega,rest,by rw[e.fams f a2];exact a3,a4⟩
theorem Acc.put {h:IH} {n0 sz:Nat} {v:Value} {n:Nat} {cs:List Value} (a:Acc h n0 sz v n cs) {k:Nat} {c:List Value} {f:Option Nat} (hk:h.ext.get k=some (.cells c 0 f)) (o:IObj):Acc (h.put k o) n0 sz v n cs:=by
 obtain⟨hz,hl,a|⟨j,fam,rfl,hn,h1,h2,h3,h4⟩⟩:=a
 ·exact⟨hz,hl,.inl a⟩
 ·refine⟨hz,hl,.inr ⟨j,fam,rfl,hn,h1,h2,?_,?_⟩⟩
  ·rw[get_put,if_neg]
   ·exact h3
   ·rintro rfl;rw[hk] at h3;cases h3;omega
  ·cases fam with
   | none=>trivial
   | some f=>exact h4
theorem Acc.app {h:IH} {n0 sz:Nat} {v:Value} {n:Nat} {cs:List Value} (a:Acc h n0 sz v n cs) {P:Program} {t:TypeId} {bytes:Nat} (hT:appT P t=some (sz,bytes)) {x:Value} {m:Nat} {new:List Value} (sx:SlOf h sz x m new) (hm:0<m)
  (hc:new.all cellOK=true) (hsz:(n+m)*(bytes+1)≤sizeMost) (h0:n0≤h.n) {h0':IH} (e0:Ext h0' h) (hn0:h0'.n≤n0) :
  ∃v' h',append P h t v x=some (v',h')∧Acc h' n0 sz v' (n+m) (cs ++ new)∧Grow h h'∧h'.n=h.n+1∧Ext h0' h':=by
 unfold appT at hT
 split at hT
 case h_2=>cases hT
 rename_i e hu
 split at hT
 case h_2=>cases hT
 rename_i zs h1 h2 h3
 simp only[cond_eq_ite] at hT
 split at hT
 case isTrue=>cases hT
 rename_i hbad
 cases hT
 have hbad':(sz == 0 || (!(Nat.ble bytes 65536) || !(zs.length == sz)))=false:=by simpa using hbad
 have hsz0:0<sz:=by
  simp at hbad';omega
 obtain⟨_,hln,hx⟩:=sx
 have hmne:(m == 0)=false:=by simp;omega
 have hx' : ∃b o k row,x=.slice (some ⟨b,o,none⟩) m k∧h.row b=some row∧(row.drop o).take (m*sz)=new∧o+m*sz≤row.length:=by
  rcases hx with⟨rfl,rfl⟩|⟨b,o,k,rfl,⟨rfl,_⟩|⟨_,_,row,_,a1,a2,a3⟩⟩
  ·omega
  ·omega
  ·exact⟨b,o,k,row,rfl,a1,a2,a3⟩
 obtain⟨b,o,k,row,rfl,a1,a2,a3⟩:=hx'
 have hms : ¬m*sz=0:=by
  have:0<m*sz:=Nat.mul_pos hm hsz0
  omega
 have hfirst:firstOf h sz m (.slice (some ⟨b,o,none⟩) m k)=some new:=by
  simp only[firstOf,cond_eq_ite,Nat.ble_eq,Nat.le_refl,if_true,beq_iff_eq,if_neg hms]
  rw[rd_of a1,if_pos a3,a2]
 have hble:Nat.ble ((n+m)*(bytes+1)) sizeMost=true:=by rw[Nat.ble_eq];exact hsz
 obtain⟨hz,hl,⟨rfl,rfl⟩|⟨kk,fam,rfl,hn,g1,g2,g3,g4⟩⟩:=a
 ·-- from nothing
  have hcs:cs = []:=List.length_eq_zero_iff.1 (by omega)
  subst hcs
  refine⟨.slice (some ⟨2*h.n,0,none⟩) m (2*m),h.new (.cells new sz none),?_,⟨hz,by simp;exact hln,.inr ⟨h.n,none,by simp,by omega,h0,by simp,by simp[get_new],trivial⟩⟩,(Grow.refl h).new _,rfl,e0.new _⟩
  have hble':Nat.ble (m*(bytes+1)) sizeMost=true:=by simpa using hble
  simp only[Id.append,hu,h1,h2,h3,lenOf,hmne,hbad',hfirst,hc,hble',cond_true,cond_false,Bool.not_true,BEq.rfl,Bool.and_self]
 ·have hcap:Nat.ble (n+m) (2*n / 2)=false:=by
   rw[Bool.eq_false_iff];intro hh;rw[Nat.ble_eq] at hh;omega
  have hodd:(2*n % 2 == 1)=false:=by simp
  have hlen:(n == 2*n / 2 && Nat.blt 0 n && (2*kk) % 2 == 0)=true:=by
   have:2*n / 2=n:=by omega
   simp[this,Nat.blt,Nat.ble_eq];omega
  have hend:(0+n*sz == cs.length && sz == sz)=true:=by simp[hl]
  have hk2:2*kk / 2=kk:=by omega
  have body : ∀f below,(∀j∈below,n0≤j)→(n0≤f)→f<h.n+1 →
    Acc (grown h kk f cs sz [] below (cs.drop 0 ++ new) sz) n0 sz (.slice (some ⟨2*h.n,0,none⟩) (n+m) (2*(n+m))) (n+m) (cs ++ new) ∧
    Grow h (grown h kk f cs sz [] below (cs.drop 0 ++ new) sz)∧Ext h0' (grown h kk f cs sz [] below (cs.drop 0 ++ new) sz):=by
   intro f below hbl hf1 hf2
   have hget : ∀j,(grown h kk f cs sz [] below (cs.drop 0 ++ new) sz).ext.get j=if j=h.n then some (.cells (cs ++ new) sz (some f)) else if j=kk then some (.cells cs sz (some f)) else h.ext.get j:=by
    intro j
    simp[grown,IH.killAll,Tr.get_set]
   refine⟨⟨hz,by simp[hl,hln,Nat.add_mul],.inr ⟨h.n,some f,rfl,by omega,h0,by simp[grown],by rw[hget,if_pos rfl],hf1,by simp[grown];omega,kk :: below,?_,fun j hj=>by rcases List.mem_cons.1 hj with rfl|hj;exact g1;exact hbl j hj⟩⟩,⟨by simp[grown],rfl,fun j hj=>?_⟩,?_⟩
   ·simp[grown,Tr.get_set]
   ·rw[hget,if_neg (by omega)]
    by_cases hjk:j=kk
    ·subst hjk
     exact .inr ⟨cs,sz,fam,some f,by omega,g3,by rw[if_pos rfl]⟩
    ·rw[if_neg hjk];exact .inl rfl
   ·refine⟨by have:=e0.n;simp[grown];omega,e0.base,fun j hj=>?_,fun g hg=>?_⟩
    ·rw[hget,if_neg (by omega),if_neg (by omega)];exact e0.get j hj
    ·simp only[grown,Tr.get_set]
     rw[if_neg (by omega)];exact e0.fams g hg
  cases fam with
  | none =>
   obtain⟨b1,b2,b3⟩:=body h.n [] (fun _ h=>by cases h) h0 (by omega)
   refine⟨_,_,?_,b1,b2,rfl,b3⟩
   simp only[Id.append,hu,h1,h2,h3,lenOf,hmne,hbad',hfirst,hc,hble,hcap,hodd,hlen,hk2,g3,hend,cond_true,cond_false,Bool.not_true]
  | some f =>
   obtain⟨f1,f2,rest,f3,f4⟩:=g4
   obtain⟨b1,b2,b3⟩:=body f rest f4 f1 (by omega)
   refine⟨_,_,?_,b1,b2,rfl,b3⟩
   have t1:(kk :: rest).takeWhile (· != kk) = []:=by simp
   have t2:((kk :: rest).dropWhile (· != kk)).drop 1=rest:=by simp
   simp only[Id.append,hu,h1,h2,h3,lenOf,hmne,hbad',hfirst,hc,hble,hcap,hodd,hlen,hk2,g3,hend,f3,t1,t2,cond_true,cond_false,Bool.not_true]
end Go.Id

namespace Go.Id
open Go Go.RowKit Go.ChangeShapes Go.WideShapes Go.Deep
theorem carry_name {n:String} {a:List Value} {v:Value} (h:carryI n a=some v):n = "math/bits.Add64" ∨ n = "math/bits.Sub64" := by
 unfold carryI at h
 split at h
 ·simp only[cond_eq_ite] at h
  split at h
  ·split at h
   ·rename_i hn;exact .inl (by simpa using hn)
   ·split at h
    ·rename_i hn;exact .inr (by simpa using hn)
    ·cases h
  ·cases h
 ·cases h
theorem sound0 {P:Program} (h1:P.follows .mixedOrders=true) (h2:(P.funcs.toList.all fun fn => !(fn.body.isSome && fn.name == "runtime.NumGoroutine") && (fn.body.isSome || ((fn.name == fn.origin || fn.origin == "") || !(fn.name == "math/bits.Add64" || fn.name == "math/bits.Sub64"))))=true):Sound (E0 P) where
 mixed:=h1
 origin f fn hf hb {args v} hc:=by
  have hm:fn∈P.funcs.toList:=by
   rw[Array.mem_toList_iff];exact Array.mem_of_getElem? hf
  have h:=List.all_eq_true.1 h2 fn hm
  rw[hb] at h
  have hn:fn.name = "math/bits.Add64" ∨ fn.name = "math/bits.Sub64" := carry_name hc
  have h':(fn.name == fn.origin || fn.origin == "")=true:=by
   rcases hn with hn|hn<;>rw[hn] at h ⊢ <;> exact(show _ from by simpa using h)
  rw[Bool.or_eq_true,beq_iff_eq,beq_iff_eq] at h'
  exact h'.imp Eq.symm id
 names f fn hf hb:=by
  have hm:fn∈P.funcs.toList:=by
   rw[Array.mem_toList_iff];exact Array.mem_of_getElem? hf
  have:=List.all_eq_true.1 h2 fn hm
  rw[Bool.and_eq_true] at this
  have:=this.1
  rw[hb] at this
  simpa using this
 intrN f g h:=by cases h
 intr f g h:=by cases h
structure SlArg (W:World) (z:Nat) (v:Value) (n:Nat) (cs:List Value):Prop where
 z0:0<z
 len:cs.length=n*z
 sc : ∀x∈cs,scal x=true
 ex:(v=.slice none 0 0∧n=0) ∨ ∃a cap,v=.slice (some a) n cap∧n≤cap∧(0<n→a.spot=none ∧ ∀j,j<n*z→W.cell? ⟨a.block,a.off+j,none⟩=cs[j]?)
section
variable {H:Type} {enc:TypeId×Value→H} {P:Program} {W:World} {held:Bool}
theorem below_same {W W':World} (hk:Below W.heap.size W W') {p:MemPlace} (hp:p.block<W.heap.size):W.sameAt W' p:=by
 cases p with
 | cell b off =>
  show W'.cell? _=W.cell? _
  unfold World.cell?
  rw[hk.block b hp]
 | map b=>exact hk.block b hp
theorem trodAll_stays {W':World} {T:TypeId→Prop} (K:Kids P T) (hsz : ∀{t e:TypeId},T t→P.underlying t=some (.slice e)→0<P.cellsOf e) (hk:Below W.heap.size W W') {sp:Nat→Bool} :
  ∀{ts:List TypeId} {vs:List Value} {ds:List (DataW H)} {ps:List MemPlace},DataW.TrodAll enc P W 0 (fun _=>true) true ts vs ds ps→(∀t∈ts,T t)→(∀p∈ps,sp p.block=true)→DataW.TrodAll enc P W' 0 sp true ts vs ds ps
 | [],_,_,_,h,_,_=>by
  obtain⟨rfl,rfl,rfl⟩:=trodAll_nil h
  rfl
 | t :: ts,_,_,_,h,hT,hs=>by
  obtain⟨v,vs,d,ds,p,q,rfl,rfl,rfl,⟨fuel,h1⟩,h2⟩:=trodAll_cons h
  refine⟨p,q,⟨fuel,?_⟩,trodAll_stays K hsz hk h2 (fun t ht=>hT t (by simp[ht])) (fun x hx=>hs x (by simp[hx])),rfl⟩
  exact DataW.trod_stays K hsz (fun h=>by cases h) (hT t (by simp)) h1 (fun x hx=>below_same hk (DataW.trod_lt _ _ _ _ h1 x hx)) (fun x hx=>hs x (by simp[hx]))
end
section
variable {H:Type} {enc:TypeId×Value→H} {P:Program} {W:World} {base:Nat} {sp:Nat→Bool} {held:Bool}
theorem trod_nat {t:TypeId} {k:IntKind} {m:Nat} (hk:k.min=0) (hm:k.max=m) (ht:P.underlying t=some (.int k)) {fuel:Nat} {cs:List Value} {x:DataW H×List MemPlace} (h:DataW.trod enc P W base sp held fuel t cs=some x) : ∃i:Nat,cs = [.int k (i:Int)]∧i≤m:=by
 obtain⟨n,rfl,_,hw⟩:=DataW.trod_int ht h
 simp only[Lit.wf,Bool.and_eq_true,decide_eq_true_eq] at hw
 exact⟨n.toNat,by rw[Int.toNat_of_nonneg (by omega)],by omega⟩
end
end Go.Id

namespace Go.Id
open Go Go.RowKit Go.ChangeShapes Go.WideShapes Go.Deep
def plNo (r s:Nat):Nat:=(r+s)*(r+s)+s
theorem plNo_inj {a b c d:Nat} (h:plNo a b=plNo c d):a=c∧b=d:=by
 have key : ∀{x y u v:Nat},u≤x→v≤y→x<y→x*x+u≠y*y+v:=by
  intro x y u v hu hv hxy e
  have h1:(x+1)*(x+1)≤y*y:=Nat.mul_le_mul hxy hxy
  have h2:(x+1)*(x+1)=x*x+2*x+1:=by rw[Nat.add_mul,Nat.mul_add];omega
  omega
 unfold plNo at h
 rcases Nat.lt_trichotomy (a+b) (c+d) with hl|he|hg
 ·exact absurd h (key (by omega) (by omega) hl)
 ·rw[he] at h;omega
 ·exact absurd h.symm (key (by omega) (by omega) hg)
open Classical in
noncomputable def plA (i:Nat):Nat×Nat:=if h : ∃p:Nat×Nat,plNo p.1 p.2=i then Classical.choose h else (0,0)
theorem plA_no (r s:Nat):plA (plNo r s)=(r,s):=by
 have h : ∃p:Nat×Nat,plNo p.1 p.2=plNo r s:=⟨(r,s),rfl⟩
 unfold plA
 rw[dif_pos h]
 obtain⟨h1,h2⟩:=plNo_inj (Classical.choose_spec h)
 exact Prod.ext h1 h2
def tellable:Value→Bool
 | .slice (some a) n cap=>n == 0 || (Nat.ble n cap && a.spot.isNone)
 | v=>scal v
def trV:Value→Value
 | .slice (some a) n cap=>if n=0 then .slice (some ⟨1,0,none⟩) 0 0 else .slice (some ⟨2*(4294967296+plNo a.block a.off)+1,0,none⟩) n (2*cap+1)
 | v=>v
theorem trV_scal {v:Value} (h:scal v=true):trV v=v:=by
 unfold trV
 split
 ·simp[scal] at h
 ·rfl
theorem trV_rel {v:Value} (h:tellable v=true):VRel (Mp.startOf plA) (trV v) v:=by
 unfold tellable at h
 split at h
 ·rename_i a n cap
  simp only[trV]
  by_cases h0:n=0
  ·subst h0
   simp only[if_true]
   exact .lost
  ·simp only[if_neg h0]
   obtain⟨b,o,sp⟩:=a
   simp only[Bool.or_eq_true,beq_iff_eq,h0,false_or,Bool.and_eq_true,Nat.ble_eq,Option.isNone_iff_eq_none] at h
   obtain⟨h1,rfl⟩:=h
   have hm:=Mp.startOf_high plA (plNo b o)
   rw[plA_no] at hm
   exact .slice (m:=Mp.startOf plA) (r:=b) (s:=o) (o:=0) hm (by omega) (by omega) (by omega) (by omega) (by omega)
 ·rename_i hne
  rw[trV_scal h]
  exact .scal h
def tellRow (W:World) (r s:Nat):List Value:=match W.heap[r]? with
 | some (.cells c _ _)=>((c.toList.drop s).takeWhile tellable).map trV
 | _ => []
noncomputable def tellB (G:Nat→Option (List Value)) (W:World) (b:Nat):Option (List Value):=if b<4294967296 then G b else
 (match W.heap[(plA (b - 4294967296)).1]? with
  | some (.cells c _ _)=>if (plA (b - 4294967296)).2≤c.size then some (tellRow W (plA (b - 4294967296)).1 (plA (b - 4294967296)).2) else none
  | _=>none)
theorem takeWhile_get {α:Type} (p:α→Bool) : ∀(l:List α) (i:Nat) (x:α),(l.takeWhile p)[i]?=some x→l[i]?=some x∧p x=true
 | [],i,x,h=>by simp at h
 | a :: l,i,x,h=>by
  rw[List.takeWhile_cons] at h
  by_cases hp:p a=true
  ·rw[if_pos hp] at h
   cases i with
   | zero=>simp at h;subst h;exact⟨rfl,hp⟩
   | succ i=>simpa using takeWhile_get p l i x (by simpa using h)
  ·rw[if_neg hp] at h;simp at h
theorem takeWhile_take {α:Type} (p:α→Bool) : ∀(l:List α) (n:Nat),n≤l.length→(∀x∈l.take n,p x=true)→(l.takeWhile p).take n=l.take n∧n≤(l.takeWhile p).length
 | l,0,_,_=>by simp
 | [],n+1,h,_=>by simp at h
 | a :: l,n+1,h,hp=>by
  have h1:p a=true:=hp a (by simp)
  obtain⟨h2,h3⟩:=takeWhile_take p l n (by simpa using h) (fun x hx=>hp x (by simp[hx]))
  rw[List.takeWhile_cons,if_pos h1]
  simp[h2,h3]
theorem tell_ok {W:World} {G:Nat→Option (List Value)} (hG : ∀b cs,G b=some cs → ∃c el fz,W.heap[b]?=some (.cells c el fz)∧cs.length≤c.size ∧ ∀(j:Nat) (x:Value),cs[j]?=some x→c[j]?=some x∧scal x=true):BaseOK plA (tellB G W) W:=by
 intro b cs hb
 unfold tellB at hb
 split at hb
 ·rename_i hlt
  obtain⟨c,el,fz,h1,h2,h3⟩:=hG b cs hb
  refine⟨b,0,Mp.startOf_low _ hlt,c,el,fz,h1,by omega,fun i v hv=>?_⟩
  obtain⟨h4,h5⟩:=h3 i v hv
  exact⟨v,by rw[Nat.zero_add];exact h4,.scal h5⟩
 ·rename_i hge
  have hm:=Mp.startOf_high plA (b - 4294967296)
  rw[show 4294967296+(b - 4294967296)=b from by omega] at hm
  obtain⟨r,s,hrs⟩ : ∃r s,plA (b - 4294967296)=(r,s):=⟨_,_,rfl⟩
  rw[hrs] at hm hb
  simp only at hb
  split at hb
  ·rename_i c el fz hh
   split at hb
   ·rename_i hs
    cases hb
    refine⟨r,s,hm,c,el,fz,hh,?_,fun i v hv=>?_⟩
    ·have:(tellRow W r s).length≤(c.toList.drop s).length:=by
      simp only[tellRow,hh,List.length_map]
      exact(List.takeWhile_sublist _).length_le
     rw[List.length_drop] at this
     have e:c.toList.length=c.size:=Array.length_toList
     have e2:(tellRow W r s).toArray.size=(tellRow W r s).length:=rfl
     simp only[Array.length_toList] at *
     omega
    ·simp only[tellRow,hh,List.getElem?_map,Option.map_eq_some_iff] at hv
     obtain⟨y,hy,rfl⟩:=hv
     obtain⟨h1,h2⟩:=takeWhile_get _ _ _ _ hy
     rw[List.getElem?_drop,Array.getElem?_toList] at h1
     exact⟨y,h1,trV_rel h2⟩
   ·cases hb
  ·cases hb
section
variable {H:Type} {enc:TypeId×Value→H} {P:Program} {W:World} {held:Bool}
theorem tell_slice {t e:TypeId} (ht:P.underlying t=some (.slice e)) {z:Nat} (hz:P.cellsOf e=z) (z0:0<z) {R:List Value→Prop}
  (elem : ∀(n:Nat) (cs:List Value) (x:DataW H×List MemPlace),DataW.trod enc P W 0 (fun _=>true) held n e cs=some x→R cs ∧ ∀y∈cs,tellable y=true) (G:Nat→Option (List Value))
  {fuel:Nat} {cs0:List Value} {x:DataW H×List MemPlace} (h:DataW.trod enc P W 0 (fun _=>true) held fuel t cs0=some x) :
  ∃(v:Value) (n:Nat) (cs:List Value),cs0 = [v]∧tellable v=true∧n≤maxLen∧SlOf (IH.start (tellB G W)) z (trV v) n (cs.map trV) ∧ ∀i,i<n→R ((cs.drop (i*z)).take z):=by
 rcases open_slice ht h with⟨h1,_⟩|⟨a,len,capp,m,k,D,Pl,h1,_,hl,hcap,hm,_,hx⟩
 ·subst h1
  exact⟨_,0,[],rfl,rfl,Nat.zero_le _,SlOf.nil _ z0,fun i hi=>by omega⟩
 ·subst h1
  simp only[if_true] at hm
  subst hm
  rw[hz] at hx
  rcases Nat.eq_zero_or_pos len with rfl|h0
  ·refine⟨_,0,[],rfl,by simp[tellable],Nat.zero_le _,?_,fun i hi=>by omega⟩
   simp only[trV,if_true]
   exact⟨z0,by simp,.inr ⟨1,0,0,rfl,.inl ⟨rfl,rfl⟩⟩⟩
  ·have spot:a.spot=none:=by
    obtain⟨cs',h1,_⟩:=hx 0 (by omega)
    obtain⟨_,hlen,hc⟩:=World.cells?_some h1
    have:=hc 0 z0
    rw[List.getElem?_eq_getElem (by omega),Nat.zero_mul] at this
    unfold World.cell? at this
    simp only[Addr.add,if_true] at this
    split at this
    ·split at this
     ·cases this
     ·rename_i h3;simpa using h3
    ·cases this
   have hadd : ∀j,a.add j=⟨a.block,a.off+j,none⟩:=fun j=>by
    unfold Addr.add
    split
    ·rename_i h0;subst h0;rw[←spot];rfl
    ·rfl
   have key : ∀i,i<len → ∃cs':List Value,cs'.length=z∧(∀j,j<z→W.cell? ⟨a.block,a.off+(i*z+j),none⟩=cs'[j]?)∧R cs' ∧ ∀y∈cs',tellable y=true:=by
    intro i hi
    obtain⟨cs',h1,h2⟩:=hx i (by omega)
    obtain⟨_,hlen,hc⟩:=World.cells?_some h1
    obtain⟨h4,h5⟩:=elem k cs' _ h2
    refine⟨cs',hlen,fun j hj=>?_,h4,h5⟩
    have h3:=hc j hj
    rw[add_add,hadd] at h3
    exact h3
   obtain⟨c,el,fz,hh⟩ : ∃c el fz,W.heap[a.block]?=some (.cells c el fz):=by
    obtain⟨cs',hl0,h1,_⟩:=key 0 h0
    have:=h1 0 z0
    rw[List.getElem?_eq_getElem (by omega)] at this
    unfold World.cell? at this
    split at this
    ·rename_i c el fz hh;exact⟨c,el,fz,hh⟩
    ·cases this
   have cell : ∀j,W.cell? ⟨a.block,j,none⟩=c[j]?:=fun j=>by
    unfold World.cell?
    rw[hh]
    simp
   have hsz:a.off+len*z≤c.size:=by
    obtain⟨cs',hl0,h1,_⟩:=key (len - 1) (by omega)
    have:=h1 (z - 1) (by omega)
    rw[cell,List.getElem?_eq_getElem (by omega)] at this
    have:=(Array.getElem?_eq_some_iff.1 this).1
    have e:(len - 1)*z+z=len*z:=by rw[←Nat.succ_mul];congr 1;omega
    omega
   have hat : ∀j,j<len*z → ∃y,c[a.off+j]?=some y∧tellable y=true:=by
    intro j hj
    have hi:j / z<len:=(Nat.div_lt_iff_lt_mul z0).2 hj
    have hr:j % z<z:=Nat.mod_lt _ z0
    have hjz:j / z*z+j % z=j:=by rw[Nat.mul_comm];exact Nat.div_add_mod j z
    obtain⟨cs',hl0,h1,_,h5⟩:=key (j / z) hi
    have:=h1 (j % z) hr
    rw[hjz,cell,List.getElem?_eq_getElem (by omega)] at this
    exact⟨_,this,h5 _ (List.getElem_mem _)⟩
   have hall : ∀y∈(c.toList.drop a.off).take (len*z),tellable y=true:=by
    intro y hy
    obtain⟨j,hj⟩:=List.mem_iff_getElem?.1 hy
    rw[List.getElem?_take] at hj
    split at hj
    ·rename_i hjl
     rw[List.getElem?_drop,Array.getElem?_toList] at hj
     obtain⟨y',h1,h2⟩:=hat j hjl
     rw[hj] at h1;cases h1;exact h2
    ·cases hj
   have hdl:len*z≤(c.toList.drop a.off).length:=by rw[List.length_drop,Array.length_toList];omega
   obtain⟨tw1,tw2⟩:=takeWhile_take tellable _ _ hdl hall
   refine⟨_,len,(c.toList.drop a.off).take (len*z),rfl,?_,by omega,?_,fun i hi=>?_⟩
   ·simp[tellable,spot,hl]
   ·simp only[trV,if_neg (by omega : ¬len=0)]
    have hpos:0<len*z:=Nat.mul_pos h0 z0
    refine⟨z0,by simp[List.length_take];rw[List.length_drop,Array.length_toList] at hdl;omega,.inr ⟨2*(4294967296+plNo a.block a.off)+1,0,_,rfl,.inr ⟨by omega,by omega,tellRow W a.block a.off,.inl ⟨by omega,by omega⟩,?_,?_,?_⟩⟩⟩
    ·have e1:((2*(4294967296+plNo a.block a.off)+1) % 2 == 1)=true:=by simp
     have e2:(2*(4294967296+plNo a.block a.off)+1) / 2=4294967296+plNo a.block a.off:=by omega
     simp only[IH.row,e1,cond_true,e2,IH.start,tellB]
     rw[if_neg (by omega),show 4294967296+plNo a.block a.off - 4294967296=plNo a.block a.off from by omega,plA_no]
     simp only[hh]
     rw[if_pos (by omega)]
    ·rw[List.drop_zero]
     simp only[tellRow,hh]
     rw[←List.map_take,tw1]
    ·simp only[tellRow,hh,List.length_map]
     omega
   ·have hlz:i*z+z≤len*z:=by
     rw[←Nat.succ_mul];exact Nat.mul_le_mul_right _ hi
    obtain⟨cs',hl0,h1,h4,_⟩:=key i hi
    have:(((c.toList.drop a.off).take (len*z)).drop (i*z)).take z=cs':=by
     apply List.ext_getElem?
     intro j
     rw[List.getElem?_take]
     by_cases hj:j<z
     ·rw[if_pos hj,List.getElem?_drop,List.getElem?_take,if_pos (by omega),List.getElem?_drop,Array.getElem?_toList,←cell,h1 j hj]
     ·rw[if_neg hj,List.getElem?_eq_none (by omega)]
    rw[this]
    exact h4
end
end Go.Id

namespace Go.Proofs.YthpefnfbnaekaaaGreat
open Go.ChangeShapes Go.WideShapes Go.ChangeAt Go.RowKit Go.Id
theorem Tryz.own:ownKnob Tryz.prog.godebug=none:=by kernel_rfl
theorem Tryz.laidOut:laidOutB Tryz.prog=true:=by kernel_rfl
theorem Tryz.mapsOut:mapsRowed Tryz.prog=true:=by kernel_rfl
theorem Tryz.kids:Kids Tryz.prog (· < Tryz.prog.types.size):=kids_rows Tryz.laidOut Tryz.mapsOut
theorem Tryz.slices:((List.range Tryz.prog.types.size).all fun t=>match Tryz.prog.underlying t with
 | some (.slice e)=>decide (0<Tryz.prog.cellsOf e)
 | _=>true)=true:=by kernel_rfl
theorem Tryz.pos {t e:TypeId} (h:t<Tryz.prog.types.size) (hu:Tryz.prog.underlying t=some (.slice e)):0<Tryz.prog.cellsOf e:=by
 have:=List.all_eq_true.1 Tryz.slices t (by simpa using h)
 rw[hu] at this
 simpa using this
theorem Tryz.sound:Sound (E0 Tryz.prog):=sound0 (by kernel_rfl) (by kernel_rfl)
end Go.Proofs.YthpefnfbnaekaaaGreat

namespace Go.Id
open Go
abbrev K64 (n:Nat):Value:=.int .u64 (n:Int)
abbrev KI (n:Int):Value:=.int .i64 n
theorem ofInt_toNat {w:Nat} {a:Nat} (h:a<2 ^ w):(BitVec.ofInt w (a:Int)).toNat=a:=by
 simp[Nat.mod_eq_of_lt h]
theorem bv_and {w a b:Nat} (ha:a<2 ^ w) (hb:b<2 ^ w):(BitVec.ofInt w (a:Int) &&& BitVec.ofInt w (b:Int)).toNat=a &&& b:=by
 rw[BitVec.toNat_and,ofInt_toNat ha,ofInt_toNat hb]
theorem bv_or {w a b:Nat} (ha:a<2 ^ w) (hb:b<2 ^ w):(BitVec.ofInt w (a:Int) ||| BitVec.ofInt w (b:Int)).toNat=a ||| b:=by
 rw[BitVec.toNat_or,ofInt_toNat ha,ofInt_toNat hb]
theorem bv_xor {w a b:Nat} (ha:a<2 ^ w) (hb:b<2 ^ w):(BitVec.ofInt w (a:Int) ^^^ BitVec.ofInt w (b:Int)).toNat=a ^^^ b:=by
 rw[BitVec.toNat_xor,ofInt_toNat ha,ofInt_toNat hb]
theorem bv_clr {w a b:Nat} (ha:a<2 ^ w) (hb:b<2 ^ w):(BitVec.ofInt w (a:Int) &&& ~~~BitVec.ofInt w (b:Int)).toNat=nclr a b:=by
 apply Nat.eq_of_testBit_eq
 intro i
 rw[testBit_nclr,BitVec.toNat_and,Nat.testBit_and,ofInt_toNat ha,BitVec.testBit_toNat,BitVec.getLsbD_not,←BitVec.testBit_toNat,ofInt_toNat hb]
 by_cases hi:i<w
 ·simp[hi]
 ·rw[Nat.testBit_lt_two_pow (Nat.lt_of_lt_of_le ha (Nat.pow_le_pow_right (by omega) (by omega)))];simp
section
variable (P:Program) (t:TypeId) (ox oy:Operand) {a b:Int}
theorem band_u (ha:0≤a∧a<18446744073709551616) (hb:0≤b∧b<18446744073709551616):binop P .and t ox oy (.int .u64 a) (.int .u64 b)=some (.int .u64 ((a.toNat &&& b.toNat:Nat):Int)):=by
 obtain⟨m,rfl⟩:=Int.eq_ofNat_of_zero_le ha.1;obtain⟨n,rfl⟩:=Int.eq_ofNat_of_zero_le hb.1
 have h1:m<2 ^ 64:=by omega
 rw[binop_and_raw,show(BitVec.ofInt IntKind.u64.bits (m:Int) &&& BitVec.ofInt IntKind.u64.bits (n:Int)).toNat=m &&& n from bv_and (w:=64) h1 (by omega),wrap_nat_u64 (and_lt h1)];rfl
theorem bor_u (ha:0≤a∧a<18446744073709551616) (hb:0≤b∧b<18446744073709551616):binop P .or t ox oy (.int .u64 a) (.int .u64 b)=some (.int .u64 ((a.toNat ||| b.toNat:Nat):Int)):=by
 obtain⟨m,rfl⟩:=Int.eq_ofNat_of_zero_le ha.1;obtain⟨n,rfl⟩:=Int.eq_ofNat_of_zero_le hb.1
 have h1:m<2 ^ 64:=by omega
 rw[binop_or_raw,show(BitVec.ofInt IntKind.u64.bits (m:Int) ||| BitVec.ofInt IntKind.u64.bits (n:Int)).toNat=m ||| n from bv_or (w:=64) h1 (by omega),wrap_nat_u64 (or_lt h1 (by omega))];rfl
theorem bxor_u (ha:0≤a∧a<18446744073709551616) (hb:0≤b∧b<18446744073709551616):binop P .xor t ox oy (.int .u64 a) (.int .u64 b)=some (.int .u64 ((a.toNat ^^^ b.toNat:Nat):Int)):=by
 obtain⟨m,rfl⟩:=Int.eq_ofNat_of_zero_le ha.1;obtain⟨n,rfl⟩:=Int.eq_ofNat_of_zero_le hb.1
 have h1:m<2 ^ 64:=by omega
 rw[binop_xor_raw,show(BitVec.ofInt IntKind.u64.bits (m:Int) ^^^ BitVec.ofInt IntKind.u64.bits (n:Int)).toNat=m ^^^ n from bv_xor (w:=64) h1 (by omega),wrap_nat_u64 (Nat.xor_lt_two_pow h1 (by omega))];rfl
theorem bclr_u (ha:0≤a∧a<18446744073709551616) (hb:0≤b∧b<18446744073709551616):binop P .andNot t ox oy (.int .u64 a) (.int .u64 b)=some (.int .u64 ((nclr a.toNat b.toNat:Nat):Int)):=by
 obtain⟨m,rfl⟩:=Int.eq_ofNat_of_zero_le ha.1;obtain⟨n,rfl⟩:=Int.eq_ofNat_of_zero_le hb.1
 have h1:m<2 ^ 64:=by omega
 rw[binop_andNot_raw,show(BitVec.ofInt IntKind.u64.bits (m:Int) &&& ~~~BitVec.ofInt IntKind.u64.bits (n:Int)).toNat=nclr m n from bv_clr (w:=64) h1 (by omega),wrap_nat_u64 (nclr_lt h1)];rfl
theorem band_i (ha:0≤a∧a<9223372036854775808) (hb:0≤b∧b<9223372036854775808):binop P .and t ox oy (.int .i64 a) (.int .i64 b)=some (.int .i64 ((a.toNat &&& b.toNat:Nat):Int)):=by
 obtain⟨m,rfl⟩:=Int.eq_ofNat_of_zero_le ha.1;obtain⟨n,rfl⟩:=Int.eq_ofNat_of_zero_le hb.1
 have h1:m<2 ^ 63:=by omega
 rw[binop_and_raw,show(BitVec.ofInt IntKind.i64.bits (m:Int) &&& BitVec.ofInt IntKind.i64.bits (n:Int)).toNat=m &&& n from bv_and (w:=64) (by omega) (by omega),wrap_nat_i64 (and_lt h1)];rfl
theorem bor_i (ha:0≤a∧a<9223372036854775808) (hb:0≤b∧b<9223372036854775808):binop P .or t ox oy (.int .i64 a) (.int .i64 b)=some (.int .i64 ((a.toNat ||| b.toNat:Nat):Int)):=by
 obtain⟨m,rfl⟩:=Int.eq_ofNat_of_zero_le ha.1;obtain⟨n,rfl⟩:=Int.eq_ofNat_of_zero_le hb.1
 have h1:m<2 ^ 63:=by omega
 rw[binop_or_raw,show(BitVec.ofInt IntKind.i64.bits (m:Int) ||| BitVec.ofInt IntKind.i64.bits (n:Int)).toNat=m ||| n from bv_or (w:=64) (by omega) (by omega),wrap_nat_i64 (or_lt h1 (by omega))];rfl
theorem band_neg (ha:0<a∧a<9223372036854775808):binop P .and t ox oy (.int .i64 a) (.int .i64 (-a))=some (.int .i64 ((2 ^ 64 - a.toNat &&& a.toNat:Nat):Int)):=by
 obtain⟨m,rfl⟩:=Int.eq_ofNat_of_zero_le (Int.le_of_lt ha.1)
 have h1:m<2 ^ 63:=by omega
 have h2:BitVec.ofInt 64 (-(m:Int))=BitVec.ofInt 64 ((2 ^ 64 - m:Nat):Int):=by
  apply BitVec.eq_of_toNat_eq
  rw[BitVec.toNat_ofInt,BitVec.toNat_ofInt]
  congr 1
  omega
 rw[binop_and_raw,show(BitVec.ofInt IntKind.i64.bits (m:Int) &&& BitVec.ofInt IntKind.i64.bits (-(m:Int))).toNat=2 ^ 64 - m &&& m from by
  show(BitVec.ofInt 64 (m:Int) &&& BitVec.ofInt 64 (-(m:Int))).toNat=_
  rw[h2,bv_and (by omega) (by omega),Nat.and_comm],wrap_nat_i64 (Nat.lt_of_le_of_lt Nat.and_le_right h1)];rfl
theorem fdiv_shr (m n:Nat) (k:Nat) (h:m<2 ^ k):Int.fdiv (m:Int) (2 ^ min n k)=((m >>> n:Nat):Int):=by
 have e:(2:Int) ^ min n k=((2 ^ min n k:Nat):Int):=by simp
 rw[e,Int.fdiv_eq_ediv_of_nonneg _ (Int.natCast_nonneg _),←Int.natCast_ediv,Nat.shiftRight_eq_div_pow]
 by_cases hn:n≤k
 ·rw[Nat.min_eq_left hn]
 ·rw[Nat.min_eq_right (by omega),Nat.div_eq_of_lt h,Nat.div_eq_of_lt (Nat.lt_of_lt_of_le h (Nat.pow_le_pow_right (by omega) (by omega)))]
def nshr (a n:Nat):Nat:=a >>> n
theorem nshr_le (a n:Nat):nshr a n≤a:=Nat.shiftRight_le a n
theorem shr_u {j:IntKind} (ha:0≤a∧a<18446744073709551616) (hb:0≤b):binop P .shr t ox oy (.int .u64 a) (.int j b)=some (.int .u64 ((nshr a.toNat b.toNat:Nat):Int)):=by
 obtain⟨m,rfl⟩:=Int.eq_ofNat_of_zero_le ha.1;obtain⟨n,rfl⟩:=Int.eq_ofNat_of_zero_le hb
 rw[binop_shr P t ox oy (by omega)]
 show some (Value.int .u64 (Int.fdiv (m:Int) (2 ^ min n 64)))=_
 rw[fdiv_shr m n 64 (by omega)];rfl
theorem shr_i {j:IntKind} (ha:0≤a∧a<9223372036854775808) (hb:0≤b):binop P .shr t ox oy (.int .i64 a) (.int j b)=some (.int .i64 ((nshr a.toNat b.toNat:Nat):Int)):=by
 obtain⟨m,rfl⟩:=Int.eq_ofNat_of_zero_le ha.1;obtain⟨n,rfl⟩:=Int.eq_ofNat_of_zero_le hb
 rw[binop_shr P t ox oy (by omega)]
 show some (Value.int .i64 (Int.fdiv (m:Int) (2 ^ min n 64)))=_
 rw[fdiv_shr m n 64 (by omega)];rfl
theorem shl1_u {j:IntKind} (hb:0≤b∧b<64):binop P .shl t ox oy (.int .u64 1) (.int j b)=some (.int .u64 ((2 ^ b.toNat:Nat):Int)):=by
 obtain⟨n,rfl⟩:=Int.eq_ofNat_of_zero_le hb.1
 rw[binop_shl P t ox oy (by omega)]
 show some (Value.int .u64 (IntKind.u64.wrap (1*2 ^ min n 64)))=_
 rw[Nat.min_eq_left (by omega),Int.one_mul,show(2:Int) ^ n=((2 ^ n:Nat):Int) from by simp,wrap_nat_u64 (Nat.pow_lt_pow_right (by omega) (by omega))];rfl
theorem shl1_i {j:IntKind} (hb:0≤b∧b<63):binop P .shl t ox oy (.int .i64 1) (.int j b)=some (.int .i64 ((2 ^ b.toNat:Nat):Int)):=by
 obtain⟨n,rfl⟩:=Int.eq_ofNat_of_zero_le hb.1
 rw[binop_shl P t ox oy (by omega)]
 show some (Value.int .i64 (IntKind.i64.wrap (1*2 ^ min n 64)))=_
 rw[Nat.min_eq_left (by omega),Int.one_mul,show(2:Int) ^ n=((2 ^ n:Nat):Int) from by simp,wrap_nat_i64 (Nat.pow_lt_pow_right (by omega) (by omega))];rfl
theorem quo_i (ha:0≤a∧a<9223372036854775808) (hb:0<b):binop P .quo t ox oy (.int .i64 a) (.int .i64 b)=some (.int .i64 (a / b)):=by
 rw[binop_quo P t ox oy (by omega),Int.tdiv_eq_ediv_of_nonneg ha.1]
 have h1:0≤a / b:=Int.ediv_nonneg ha.1 (by omega)
 have h2:a / b≤a:=Int.ediv_le_self _ ha.1
 rw[wrap_i64 (by omega)]
theorem quo_u (ha:0≤a∧a<18446744073709551616) (hb:0<b):binop P .quo t ox oy (.int .u64 a) (.int .u64 b)=some (.int .u64 (a / b)):=by
 rw[binop_quo P t ox oy (by omega),Int.tdiv_eq_ediv_of_nonneg ha.1]
 have h1:0≤a / b:=Int.ediv_nonneg ha.1 (by omega)
 have h2:a / b≤a:=Int.ediv_le_self _ ha.1
 rw[wrap_u64 (by omega)]
theorem rem_nn {k:IntKind} (ha:0≤a) (hb:0<b):binop P .rem t ox oy (.int k a) (.int k b)=some (.int k (a % b)):=by
 rw[binop_rem P t ox oy (by omega),Int.tmod_eq_emod_of_nonneg ha]
end
theorem rd_eq (h:IH) (b o n:Nat):h.rd b o n=(h.row b).bind fun cs=>if o+n≤cs.length then some ((cs.drop o).take n) else none:=by
 cases hr:h.row b with
 | none=>simp[IH.rd,hr]
 | some cs=>rw[rd_of hr];rfl
end Go.Id
