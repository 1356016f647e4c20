/-
  Weakest preconditions over the ideal machine, sixth part: bits of numbers that are not negative. Weakest preconditions over the ideal machine, seventh part: one step after the other. A continuation stands where the simplifier does not look (an argument depends on it); run with 'simp -dsimp'.
-/
import Derived.Test.YtnanhedgenokpaaGreatTemperMovesAq
set_option linter.unusedVariables false
set_option linter.unusedSimpArgs false
set_option linter.defProp false
set_option linter.deprecated false
namespace Go.Id
open Go
abbrev K64 (n:Nat):Value:=.int .u64 (n:Int)
abbrev KI (n:Int):Value:=.int .i64 n
theorem fB {w:Nat} {a:Nat} (h:a<2 ^ w):(BitVec.ofInt w (a:Int)).toNat=a:=by
 simp[Nat.mod_eq_of_lt h]
theorem bv_and {w a b:Nat} (ha:a<2 ^ w) (hb:b<2 ^ w):(BitVec.ofInt w (a:Int) &&& BitVec.ofInt w (b:Int)).toNat=a &&& b:=by
 rw[BitVec.toNat_and,fB ha,fB hb]
theorem Pv {w a b:Nat} (ha:a<2 ^ w) (hb:b<2 ^ w):(BitVec.ofInt w (a:Int) ||| BitVec.ofInt w (b:Int)).toNat=a ||| b:=by
 rw[BitVec.toNat_or,fB ha,fB hb]
theorem QS {w a b:Nat} (ha:a<2 ^ w) (hb:b<2 ^ w):(BitVec.ofInt w (a:Int) ^^^ BitVec.ofInt w (b:Int)).toNat=a ^^^ b:=by
 rw[BitVec.toNat_xor,fB ha,fB hb]
theorem QT {w a b:Nat} (ha:a<2 ^ w) (hb:b<2 ^ w):(BitVec.ofInt w (a:Int) &&& ~~~BitVec.ofInt w (b:Int)).toNat=Iy a b:=by
 apply Nat.eq_of_testBit_eq
 intro i
 rw[AU,BitVec.toNat_and,Nat.testBit_and,fB ha,BitVec.testBit_toNat,BitVec.getLsbD_not,←BitVec.testBit_toNat,fB hb]
 by_cases hi:i<w
 ·simp[hi]
 ·rw[Nat.testBit_lt_two_pow (Nat.lt_of_lt_of_le ha (Nat.pow_le_pow_right (by omega) (by omega)))];simp
section
variable (P:Program) (t:TypeId) (ox oy:Operand) {a b:Int}
theorem Mx (ha:0≤a∧a<18446744073709551616) (hb:0≤b∧b<18446744073709551616):binop P .and t ox oy (.int .u64 a) (.int .u64 b)=some (.int .u64 ((a.toNat &&& b.toNat:Nat):Int)):=by
 obtain⟨m,rfl⟩:=Int.eq_ofNat_of_zero_le ha.1;obtain⟨n,rfl⟩:=Int.eq_ofNat_of_zero_le hb.1
 have h1:m<2 ^ 64:=by omega
 rw[jO,show(BitVec.ofInt IntKind.u64.bits (m:Int) &&& BitVec.ofInt IntKind.u64.bits (n:Int)).toNat=m &&& n from bv_and (w:=64) h1 (by omega),dh (FY h1)];rfl
theorem Pz (ha:0≤a∧a<18446744073709551616) (hb:0≤b∧b<18446744073709551616):binop P .or t ox oy (.int .u64 a) (.int .u64 b)=some (.int .u64 ((a.toNat ||| b.toNat:Nat):Int)):=by
 obtain⟨m,rfl⟩:=Int.eq_ofNat_of_zero_le ha.1;obtain⟨n,rfl⟩:=Int.eq_ofNat_of_zero_le hb.1
 have h1:m<2 ^ 64:=by omega
 rw[nz,show(BitVec.ofInt IntKind.u64.bits (m:Int) ||| BitVec.ofInt IntKind.u64.bits (n:Int)).toNat=m ||| n from Pv (w:=64) h1 (by omega),dh (Kv h1 (by omega))];rfl
theorem Mo (ha:0≤a∧a<18446744073709551616) (hb:0≤b∧b<18446744073709551616):binop P .xor t ox oy (.int .u64 a) (.int .u64 b)=some (.int .u64 ((a.toNat ^^^ b.toNat:Nat):Int)):=by
 obtain⟨m,rfl⟩:=Int.eq_ofNat_of_zero_le ha.1;obtain⟨n,rfl⟩:=Int.eq_ofNat_of_zero_le hb.1
 have h1:m<2 ^ 64:=by omega
 rw[qu,show(BitVec.ofInt IntKind.u64.bits (m:Int) ^^^ BitVec.ofInt IntKind.u64.bits (n:Int)).toNat=m ^^^ n from QS (w:=64) h1 (by omega),dh (Nat.xor_lt_two_pow h1 (by omega))];rfl
theorem Mw (ha:0≤a∧a<18446744073709551616) (hb:0≤b∧b<18446744073709551616):binop P .andNot t ox oy (.int .u64 a) (.int .u64 b)=some (.int .u64 ((Iy a.toNat b.toNat:Nat):Int)):=by
 obtain⟨m,rfl⟩:=Int.eq_ofNat_of_zero_le ha.1;obtain⟨n,rfl⟩:=Int.eq_ofNat_of_zero_le hb.1
 have h1:m<2 ^ 64:=by omega
 rw[tZ,show(BitVec.ofInt IntKind.u64.bits (m:Int) &&& ~~~BitVec.ofInt IntKind.u64.bits (n:Int)).toNat=Iy m n from QT (w:=64) h1 (by omega),dh (NB h1)];rfl
theorem My (ha:0≤a∧a<9223372036854775808) (hb:0≤b∧b<9223372036854775808):binop P .and t ox oy (.int .i64 a) (.int .i64 b)=some (.int .i64 ((a.toNat &&& b.toNat:Nat):Int)):=by
 obtain⟨m,rfl⟩:=Int.eq_ofNat_of_zero_le ha.1;obtain⟨n,rfl⟩:=Int.eq_ofNat_of_zero_le hb.1
 have h1:m<2 ^ 63:=by omega
 rw[jO,show(BitVec.ofInt IntKind.i64.bits (m:Int) &&& BitVec.ofInt IntKind.i64.bits (n:Int)).toNat=m &&& n from bv_and (w:=64) (by omega) (by omega),kI (FY h1)];rfl
theorem PA (ha:0≤a∧a<9223372036854775808) (hb:0≤b∧b<9223372036854775808):binop P .or t ox oy (.int .i64 a) (.int .i64 b)=some (.int .i64 ((a.toNat ||| b.toNat:Nat):Int)):=by
 obtain⟨m,rfl⟩:=Int.eq_ofNat_of_zero_le ha.1;obtain⟨n,rfl⟩:=Int.eq_ofNat_of_zero_le hb.1
 have h1:m<2 ^ 63:=by omega
 rw[nz,show(BitVec.ofInt IntKind.i64.bits (m:Int) ||| BitVec.ofInt IntKind.i64.bits (n:Int)).toNat=m ||| n from Pv (w:=64) (by omega) (by omega),kI (Kv h1 (by omega))];rfl
theorem DW (ha:0<a∧a<9223372036854775808):binop P .and t ox oy (.int .i64 a) (.int .i64 (-a))=some (.int .i64 ((2 ^ 64 - a.toNat &&& a.toNat:Nat):Int)):=by
 obtain⟨m,rfl⟩:=Int.eq_ofNat_of_zero_le (Int.le_of_lt ha.1)
 have h1:m<2 ^ 63:=by omega
 have h2:BitVec.ofInt 64 (-(m:Int))=BitVec.ofInt 64 ((2 ^ 64 - m:Nat):Int):=by
  apply BitVec.eq_of_toNat_eq
  rw[BitVec.toNat_ofInt,BitVec.toNat_ofInt]
  congr 1
  omega
 rw[jO,show(BitVec.ofInt IntKind.i64.bits (m:Int) &&& BitVec.ofInt IntKind.i64.bits (-(m:Int))).toNat=2 ^ 64 - m &&& m from by
  show(BitVec.ofInt 64 (m:Int) &&& BitVec.ofInt 64 (-(m:Int))).toNat=_
  rw[h2,bv_and (by omega) (by omega),Nat.and_comm],kI (Nat.lt_of_le_of_lt Nat.and_le_right h1)];rfl
theorem Dy (m n:Nat) (k:Nat) (h:m<2 ^ k):Int.fdiv (m:Int) (2 ^ min n k)=((m >>> n:Nat):Int):=by
 have e:(2:Int) ^ min n k=((2 ^ min n k:Nat):Int):=by simp
 rw[e,Int.fdiv_eq_ediv_of_nonneg _ (Int.natCast_nonneg _),←Int.natCast_ediv,Nat.shiftRight_eq_div_pow]
 by_cases hn:n≤k
 ·rw[Nat.min_eq_left hn]
 ·rw[Nat.min_eq_right (by omega),Nat.div_eq_of_lt h,Nat.div_eq_of_lt (Nat.lt_of_lt_of_le h (Nat.pow_le_pow_right (by omega) (by omega)))]
def lF (a n:Nat):Nat:=a >>> n
theorem Nz (a n:Nat):lF a n≤a:=Nat.shiftRight_le a n
theorem J3 {j:IntKind} (ha:0≤a∧a<18446744073709551616) (hb:0≤b):binop P .shr t ox oy (.int .u64 a) (.int j b)=some (.int .u64 ((lF a.toNat b.toNat:Nat):Int)):=by
 obtain⟨m,rfl⟩:=Int.eq_ofNat_of_zero_le ha.1;obtain⟨n,rfl⟩:=Int.eq_ofNat_of_zero_le hb
 rw[Ar P t ox oy (by omega)]
 show some (Value.int .u64 (Int.fdiv (m:Int) (2 ^ min n 64)))=_
 rw[Dy m n 64 (by omega)];rfl
theorem OR {j:IntKind} (ha:0≤a∧a<9223372036854775808) (hb:0≤b):binop P .shr t ox oy (.int .i64 a) (.int j b)=some (.int .i64 ((lF a.toNat b.toNat:Nat):Int)):=by
 obtain⟨m,rfl⟩:=Int.eq_ofNat_of_zero_le ha.1;obtain⟨n,rfl⟩:=Int.eq_ofNat_of_zero_le hb
 rw[Ar P t ox oy (by omega)]
 show some (Value.int .i64 (Int.fdiv (m:Int) (2 ^ min n 64)))=_
 rw[Dy m n 64 (by omega)];rfl
theorem J4 {j:IntKind} (hb:0≤b∧b<64):binop P .shl t ox oy (.int .u64 1) (.int j b)=some (.int .u64 ((2 ^ b.toNat:Nat):Int)):=by
 obtain⟨n,rfl⟩:=Int.eq_ofNat_of_zero_le hb.1
 rw[pO P t ox oy (by omega)]
 show some (Value.int .u64 (IntKind.u64.wrap (1*2 ^ min n 64)))=_
 rw[Nat.min_eq_left (by omega),Int.one_mul,show(2:Int) ^ n=((2 ^ n:Nat):Int) from by simp,dh (Nat.pow_lt_pow_right (by omega) (by omega))];rfl
theorem J5 {j:IntKind} (hb:0≤b∧b<63):binop P .shl t ox oy (.int .i64 1) (.int j b)=some (.int .i64 ((2 ^ b.toNat:Nat):Int)):=by
 obtain⟨n,rfl⟩:=Int.eq_ofNat_of_zero_le hb.1
 rw[pO P t ox oy (by omega)]
 show some (Value.int .i64 (IntKind.i64.wrap (1*2 ^ min n 64)))=_
 rw[Nat.min_eq_left (by omega),Int.one_mul,show(2:Int) ^ n=((2 ^ n:Nat):Int) from by simp,kI (Nat.pow_lt_pow_right (by omega) (by omega))];rfl
theorem OY (ha:0≤a∧a<9223372036854775808) (hb:0<b):binop P .quo t ox oy (.int .i64 a) (.int .i64 b)=some (.int .i64 (a / b)):=by
 rw[As P t ox oy (by omega),Int.tdiv_eq_ediv_of_nonneg ha.1]
 have h1:0≤a / b:=Int.ediv_nonneg ha.1 (by omega)
 have h2:a / b≤a:=Int.ediv_le_self _ ha.1
 rw[wrap_i64 (by omega)]
theorem OW (ha:0≤a∧a<18446744073709551616) (hb:0<b):binop P .quo t ox oy (.int .u64 a) (.int .u64 b)=some (.int .u64 (a / b)):=by
 rw[As P t ox oy (by omega),Int.tdiv_eq_ediv_of_nonneg ha.1]
 have h1:0≤a / b:=Int.ediv_nonneg ha.1 (by omega)
 have h2:a / b≤a:=Int.ediv_le_self _ ha.1
 rw[rk (by omega)]
theorem Ke {k:IntKind} (ha:0≤a) (hb:0<b):binop P .rem t ox oy (.int k a) (.int k b)=some (.int k (a % b)):=by
 rw[tY P t ox oy (by omega),Int.tmod_eq_emod_of_nonneg ha]
end
theorem OV (h:IH) (b o n:Nat):h.rd b o n=(h.row b).bind fun cs=>if o+n≤cs.length then some ((cs.drop o).take n) else none:=by
 cases hr:h.row b with
 | none=>simp[IH.rd,hr]
 | some cs=>rw[zw hr];rfl
end Go.Id

namespace Go.Id
open Go
def Nx {α:Type} (_:α):Type:=Unit
def nx {α:Type} {a:α}:Nx a:=()
def Do {κ:Type} (m:κ→Prop) (K:κ) (_:Nx K):Prop:=m K
def Bq (b:Bool) (pq:Prop×Prop) (_:Nx pq):Prop:=Br b pq.1 pq.2
theorem Po {α:Type} (v:α) (K:α→Prop) (u:Nx K):Do (Ex (some v)) K u=K v:=BU v K
theorem Ac {α β:Type} (o:Option α) (f:α→β) (K:β→Prop) (u:Nx K):Do (Ex (o.map f)) K u=Do (Ex o) (fun v=>K (f v)) nx:=Ra o f K
theorem xQ {α β:Type} (o:Option α) (f:α→Option β) (K:β→Prop) (u:Nx K):Do (Ex (o.bind f)) K u=Do (Ex o) (fun v=>Do (Ex (f v)) K nx) nx:=OE o f K
theorem DG {α:Type} (c:Prop) [Decidable c] (v:Option α) (hc:c) (K:α→Prop) (u:Nx K):Do (Ex (if c then v else none)) K u=Do (Ex v) K nx:=by rw[if_pos hc];rfl
theorem BM (p q:Prop) (u:Nx (p,q)):Bq true (p,q) u=p:=OF p q
theorem yi (p q:Prop) (u:Nx (p,q)):Bq false (p,q) u=q:=MJ p q
theorem ax {b:Bool} {p q:Prop} (h1:b=true→p) (h2:b=false→q):Bq b (p,q) nx:=Br.intro h1 h2
def C0:Value→Option Value
 | .pointer (some a)=>some (.pointer (some a))
 | .func (.func f) xs ys=>some (.func (.func f) xs ys)
 | .func (.yield f) xs ys=>some (.func (.yield f) xs ys)
 | .map r=>some (.map r)
 | _=>none
theorem CY (b o:Nat):C0 (ptr b o)=some (ptr b o):=rfl
theorem zG (f:FuncId) (xs ys:Array Value):C0 (.func (.func f) xs ys)=some (.func (.func f) xs ys):=rfl
theorem CZ (r:Option Nat):C0 (.map r)=some (.map r):=rfl
section
variable (P:Program) (fr:Fr) (h:IH) (K:Value→IH→Prop) (u:Nx K)
theorem LX (x:Operand):Do (wpOp P (.move x) fr h) K u=Do (Ex (opd fr x)) (fun v=>K v h) nx:=rfl
theorem DM (x:Operand):Do (wpOp P (.assign x) fr h) K u=Do (Ex (opd fr x)) (fun v=>K v h) nx:=rfl
theorem Hm (t:TypeId):Do (wpOp P (.alloc t) fr h) K u=Do (Ex (aE P t)) (fun z=>K (ptr (2*h.n) 0) (h.new (.cells z 0 none))) nx:=rfl
theorem Ps (t:TypeId) (x:Operand):Do (wpOp P (.box t x) fr h) K u=Do (Ex (opd fr x)) (fun v=>K (ptr (2*h.n) 0) (h.new (.cells v.cells.toList 0 none))) nx:=rfl
theorem LZ (t:TypeId) (a:Operand):Do (wpOp P (.load t a) fr h) K u=Do (Ex (opd fr a)) (fun a=>Do (Ex (load P h t a)) (fun v=>K v h) nx) nx:=rfl
theorem Hc (t:TypeId) (a x:Operand):Do (wpOp P (.store t a x) fr h) K u=Do (Ex (opd fr a)) (fun a=>Do (Ex (opd fr x)) (fun x=>Do (Ex (store P h t a x)) (fun h=>K undef h) nx) nx) nx:=rfl
theorem Hl (op:BinOp) (t:TypeId) (x y:Operand) (s:TypeId):Do (wpOp P (.binOp op t x y s) fr h) K u=Do (Ex (opd fr x)) (fun a=>Do (Ex (opd fr y)) (fun b=>Do (Ex (binop P op t x y a b)) (fun v=>K v h) nx) nx) nx:=rfl
theorem LW (c a b:Operand):Do (wpOp P (.pick c a b) fr h) K u=Do (Ex (opd fr c)) (fun c=>Do (Ex (opd fr a)) (fun a=>Do (Ex (opd fr b)) (fun b=>match c with
  | .bool c=>Bq c (K a h,K b h) nx
  | _=>False) nx) nx) nx:=by
 show wpOp P (.pick c a b) fr h K=_
 rw[HK]
 show _=Ex (opd fr c) _
 congr 1;funext c
 show _=Ex (opd fr a) _
 congr 1;funext a
 show _=Ex (opd fr b) _
 congr 1;funext b
 cases c<;>simp
 rename_i c
 cases c<;>simp[BM,yi]
theorem Af (x:Operand) (i:Nat):Do (wpOp P (.extract x i) fr h) K u=Do (Ex (opd fr x)) (fun x=>match x with
  | .tuple vs=>Do (Ex vs[i]?) (fun v=>K v h) nx
  | _=>False) nx:=rfl
theorem xX (f:FuncId) (a b:Array Operand):Do (wpOp P (.makeFunc (.func f) a b) fr h) K u=Do (Ex (jV fr a.toList)) (fun x=>Do (Ex (jV fr b.toList)) (fun y=>K (.func (.func f) x.toArray y.toArray) h) nx) nx:=rfl
theorem Ma (f:Operand) (args:Array Operand) (ts:Array TypeId):Do (wpOp P (.call ⟨.value f,args,ts⟩) fr h) K u=Do (Ex (opd fr f)) (fun fv=>Do (Ex (jV fr args.toList)) (fun vs=>Do (WV P fv vs h) K nx) nx) nx:=rfl
theorem Ah (b:Builtin) (args:Array Operand) (ts:Array TypeId):Do (wpOp P (.call ⟨.builtin b,args,ts⟩) fr h) K u=Do (Ex (jV fr args.toList)) (fun vs=>Do (Ex (builtin P h b ts vs)) (fun r=>K r.1 r.2) nx) nx:=rfl
theorem uK (t:TypeId) (x:Operand) (f:Nat):Do (wpOp P (.fieldAddr t x f) fr h) K u=Do (Ex (opd fr x)) (fun x=>Do (Ex (fieldAt P t f)) (fun off=>Do (Ex (asAddr x)) (fun a=>K (ptr a.1 (a.2+off)) h) nx) nx) nx:=by
 show wpOp P (.fieldAddr t x f) fr h K=_
 rw[vK]
 show _=Ex (opd fr x) _
 congr 1;funext x
 show _=Ex (fieldAt P t f) _
 cases fieldAt P t f<;>cases asAddr x<;>simp[Do]
theorem uJ (t:TypeId) (x i:Operand):Do (wpOp P (.indexAddr t x i) fr h) K u=Do (Ex (opd fr x)) (fun x=>Do (Ex (opd fr i)) (fun i=>Do (Ex (indexAddr P t x i)) (fun v=>K v h) nx) nx) nx:=rfl
theorem LS (op:UnOp) (t:TypeId) (x:Operand):Do (wpOp P (.unOp op t x) fr h) K u=Do (Ex (opd fr x)) (fun v=>Do (Ex (bif plain v then cG P (Op.unary op v) else none)) (fun v=>K v h) nx) nx:=HJ P fr h K op t x
theorem Ag (s d:TypeId) (x:Operand):Do (wpOp P (.convert s d x) fr h) K u=Do (Ex (opd fr x)) (fun v=>Do (Ex (sX P s d v)) (fun v=>K v h) nx) nx:=AM P fr h K s d x
theorem uI (t:TypeId) (l c:Operand):Do (wpOp P (.makeSlice t l c) fr h) K u=Do (Ex (opd fr l)) (fun l=>Do (Ex (opd fr c)) (fun c=>Do (Ex (makeSlice P h t l c)) (fun r=>K r.1 r.2) nx) nx) nx:=vJ P fr h K t l c
theorem sW (t:TypeId) (n:Nat) (ps:Array (Nat×Operand)):Do (wpOp P (.buildSlice t n ps) fr h) K u=Do (Ex (partsOf fr ps.toList)) (fun ps=>Do (Ex (buildSlice P h t n ps)) (fun r=>K r.1 r.2) nx) nx:=uV P fr h K t n ps
theorem Hd (t:TypeId) (x:Operand) (lo hi mx:Option Operand):Do (wpOp P (.slice t x lo hi mx) fr h) K u=Do (Ex (opd fr x)) (fun x=>Do (Ex (fm fr lo)) (fun lo=>Do (Ex (fm fr hi)) (fun hi=>Do (Ex (fm fr mx)) (fun mx=>Do (Ex (di P h t x lo hi mx)) (fun v=>K v h) nx) nx) nx) nx) nx:=Eb P fr h K t x lo hi mx
theorem Hj (t:TypeId) (ps:Array (Nat×Operand)):Do (wpOp P (.build t ps) fr h) K u=Do (Ex (partsOf fr ps.toList)) (fun ps=>Do (Ex (fH P t ps)) (fun v=>K v h) nx) nx:=Ee P fr h K t ps
theorem Hi (t:TypeId) (x:Operand) (f:Nat):Do (wpOp P (.field t x f) fr h) K u=Do (Ex (opd fr x)) (fun x=>Do (Ex (qU P t f x)) (fun v=>K v h) nx) nx:=Ed P fr h K t x f
theorem xW (x:Operand):Do (wpOp P (.nilCheck x) fr h) K u=Do (Ex (opd fr x)) (fun x=>Do (Ex (C0 x)) (fun v=>K v h) nx) nx:=by
 show wpOp P (.nilCheck x) fr h K=_
 rw[yw]
 show _=Ex (opd fr x) _
 congr 1;funext x
 show _=Ex (C0 x) _
 cases x with
 | pointer a=>cases a<;>simp[C0]
 | func f xs ys=>cases f<;>simp[C0]
 | _=>simp[C0]
theorem DK (t:TypeId) (m k:Operand) (ok:Bool):Do (wpOp P (.lookup t m k ok) fr h) K u=Do (Ex (opd fr m)) (fun m=>Do (Ex (opd fr k)) (fun k=>Do (Ex (lookup P h t m k ok)) (fun v=>K v h) nx) nx) nx:=B6 P fr h K t m k ok
theorem uH (t:TypeId) (m k v:Operand):Do (wpOp P (.mapUpdate t m k v) fr h) K u=Do (Ex (opd fr m)) (fun m=>Do (Ex (opd fr k)) (fun k=>Do (Ex (opd fr v)) (fun v=>Do (Ex (mapUpdate P h t m k v)) (fun h=>K undef h) nx) nx) nx) nx:=oc P fr h K t m k v
theorem DL (t:TypeId) (m k v:Operand):Do (wpOp P (.insert t m k v) fr h) K u=Do (Ex (opd fr m)) (fun m=>Do (Ex (opd fr k)) (fun k=>Do (Ex (opd fr v)) (fun v=>Do (Ex (mapUpdate P h t m k v)) (fun h=>K undef h) nx) nx) nx) nx:=Ca P fr h K t m k v
theorem Ae (t:TypeId):Do (wpOp P (.makeMap t none) fr h) K u=K (.map (some (2*h.n))) (h.new (.map [])):=AL P fr h K t
theorem Hg (t:TypeId) (x i:Operand):Do (wpOp P (.index t x i) fr h) K u=Do (Ex (opd fr x)) (fun x=>Do (Ex (opd fr i)) (fun i=>Do (Ex (qP P t x i)) (fun v=>K v h) nx) nx) nx:=Ec P fr h K t x i
end
section
variable (P:Program) (nt:Nat) (all:List Oper) (d:Option Tmp) (o:Op) (ty:TypeId) (pos:String) (af:Array Edge) (l:List Oper) (fr:Fr) (h:IH)
theorem Pq (d:Nat) (v:Value) (K:Fr→Prop) (u:Nx K) (hd:d<nt):Do (dO nt fr (some d) v) K u=K ((d,v) :: fr):=D8 nt fr d v K hd
theorem xV (v:Value) (K:Fr→Prop) (u:Nx K):Do (dO nt fr none v) K u=K fr:=rfl
theorem Pr (K:Fr→IH→Prop) (u:Nx K):Do (wpOps P nt all [] fr h) K u=K fr h:=rfl
theorem L7 (K:Fr→IH→Prop) (u:Nx K):Do (wpOps P nt all (⟨d,o,ty,pos,af,none⟩ :: l) fr h) K u=Do (wpOp P o fr h) (fun v h=>Do (dO nt fr d v) (fun fr=>Do (wpOps P nt all l fr h) K nx) nx) nx:=rfl
theorem Hh (j:Nat) (want:Bool) (K:Fr→IH→Prop) (u:Nx K):Do (wpOps P nt all (⟨d,o,ty,pos,af,some (j,want)⟩ :: l) fr h) K u =
  Do (Ex ((all[j]?).bind (·.dst))) (fun g=>Do (Ex (ah fr g)) (fun b=>match b with
   | .bool b=>Bq (b == want) (Do (wpOp P o fr h) (fun v h=>Do (dO nt fr d v) (fun fr=>Do (wpOps P nt all l fr h) K nx) nx) nx,Do (dO nt fr d undef) (fun fr=>Do (wpOps P nt all l fr h) K nx) nx) nx
   | .tuple _=>Do (dO nt fr d undef) (fun fr=>Do (wpOps P nt all l fr h) K nx) nx
   | _=>False) nx) nx:=rfl
theorem LU (tr:List (Fr×IH)) (K:List (Fr×IH)→Prop) (u:Nx K):Do (cC P nt all [] fr h tr) K u=K (tr ++ [(fr,h)]):=rfl
theorem G9 (tr:List (Fr×IH)) (K:List (Fr×IH)→Prop) (u:Nx K):Do (cC P nt all (⟨d,o,ty,pos,af,none⟩ :: l) fr h tr) K u=Do (wpOp P o fr h) (fun v h1=>Do (dO nt fr d v) (fun fr1=>Do (cC P nt all l fr1 h1 (tr ++ [(fr,h)])) K nx) nx) nx:=rfl
theorem DI (j:Nat) (want:Bool) (tr:List (Fr×IH)) (K:List (Fr×IH)→Prop) (u:Nx K):Do (cC P nt all (⟨d,o,ty,pos,af,some (j,want)⟩ :: l) fr h tr) K u =
  Do (Ex ((all[j]?).bind (·.dst))) (fun g=>Do (Ex (ah fr g)) (fun b=>match b with
   | .bool b=>Bq (b == want) (Do (wpOp P o fr h) (fun v h1=>Do (dO nt fr d v) (fun fr1=>Do (cC P nt all l fr1 h1 (tr ++ [(fr,h)])) K nx) nx) nx,Do (dO nt fr d undef) (fun fr1=>Do (cC P nt all l fr1 h (tr ++ [(fr,h)])) K nx) nx) nx
   | .tuple _=>Do (dO nt fr d undef) (fun fr1=>Do (cC P nt all l fr1 h (tr ++ [(fr,h)])) K nx) nx
   | _=>False) nx) nx:=rfl
end
section
variable (P:Program) (fn:FuncId) (nt:Nat) (rd:Option Nat) (fr:Fr) (h:IH) (Q:bd→Fr→IH→Prop) (u:Nx Q)
def ot (K:Fr→IH→Prop) (Q:bd→Fr→IH→Prop) (e:bd) (fr:Fr) (h:IH):Prop:=match e with
 | .normal=>K fr h
 | .exit i=>Q (.exit i) fr h
 | .ret=>Q .ret fr h
def lM (id:Nat) (Q:bd→Fr→IH→Prop) (e:bd) (fr:Fr) (h:IH):Prop:=match e with
 | .exit i=>Br (i == id) (Q .normal fr h) (Q (.exit i) fr h)
 | .normal=>Q .normal fr h
 | .ret=>Q .ret fr h
theorem um (K:Fr→IH→Prop):ot K Q .normal fr h=K fr h:=rfl
theorem zt (K:Fr→IH→Prop) (i:Nat):ot K Q (.exit i) fr h=Q (.exit i) fr h:=rfl
theorem CD (K:Fr→IH→Prop):ot K Q .ret fr h=Q .ret fr h:=rfl
theorem qt (id:Nat):lM id Q .normal fr h=Q .normal fr h:=rfl
theorem yj (id:Nat):lM id Q .ret fr h=Q .ret fr h:=rfl
theorem uO (id:Nat):lM id Q (.exit id) fr h=Q .normal fr h:=by simp[lM]
theorem uP (id i:Nat) (hi:(i == id)=false):lM id Q (.exit i) fr h=Q (.exit i) fr h:=by simp[lM,hi]
theorem LV:Do (wpC P fn nt rd .skip fr h) Q u=Q .normal fr h:=rfl
theorem DJ (id:Nat) (ops:Array Oper):Do (wpC P fn nt rd (.region id ops false) fr h) Q u=Do (wpOps P nt ops.toList ops.toList fr h) (Q .normal) nx:=rfl
theorem L9 (id:Nat) (ops:Array Oper) (hc:fG ops.toList=true):Do (wpC P fn nt rd (.region id ops true) fr h) Q u=Do (wpOps P nt ops.toList ops.toList fr h) (Q .normal) nx:=by
 show((fG ops.toList=true→wpOps P nt ops.toList ops.toList fr h (Q .normal))∧(fG ops.toList=false→F2 P nt ops.toList fr h (Q .normal)))=_
 simp only[hc,true_implies,reduceCtorEq,false_implies,and_true]
 rfl
theorem kf (a b:Code):Do (wpC P fn nt rd (.seq a b) fr h) Q u=Do (wpC P fn nt rd a fr h) (ot (fun fr h=>Do (wpC P fn nt rd b fr h) Q nx) Q) nx:=by
 show wpC P fn nt rd a fr h _=wpC P fn nt rd a fr h _
 congr 1
theorem L8 (c:Operand) (a b:Code):Do (wpC P fn nt rd (.cond c a b) fr h) Q u=Do (Ex (opd fr c)) (fun c=>match c with
  | .bool c=>Bq c (Do (wpC P fn nt rd a fr h) Q nx,Do (wpC P fn nt rd b fr h) Q nx) nx
  | _=>False) nx:=rfl
theorem Hk (id:Nat) (b:Code):Do (wpC P fn nt rd (.block id b) fr h) Q u=Do (wpC P fn nt rd b fr h) (lM id Q) nx:=rfl
theorem LY (b:Code):Do (wpC P fn nt rd (.loop b) fr h) Q u=Do (uQ P fn nt rd b fr h) Q nx:=rfl
theorem He (b:Code):Do (wpC P fn nt rd (.scope b) fr h) Q u=Do (wpC P fn nt rd b fr h) Q nx:=rfl
theorem uG (f:Operand) (ps:Array Tmp) (a b:Code):Do (wpC P fn nt rd (.rangeFunc f ps a b) fr h) Q u=Do (pf P fn nt rd f ps a b fr h) Q nx:=rfl
theorem L6 (i:Nat):Do (wpC P fn nt rd (.exit i) fr h) Q u=Q (.exit i) fr h:=rfl
theorem Pp:Do (wpC P fn nt rd .ret fr h) Q u=Q .ret fr h:=rfl
end
def Nh (P:Program) (rs:List ResultVar) (K:Value→IH→Prop) (e:bd) (fr:Fr) (h:IH):Prop:=match e with
 | .exit _=>False
 | .normal=>Do (Ex (bW P fr h rs)) (fun l=>K (single l) h) nx
 | .ret=>Do (Ex (bW P fr h rs)) (fun l=>K (single l) h) nx
theorem uq (P:Program) (rs:List ResultVar) (K:Value→IH→Prop) (fr:Fr) (h:IH):Nh P rs K .normal fr h=Do (Ex (bW P fr h rs)) (fun l=>K (single l) h) nx:=rfl
theorem CH (P:Program) (rs:List ResultVar) (K:Value→IH→Prop) (fr:Fr) (h:IH):Nh P rs K .ret fr h=Do (Ex (bW P fr h rs)) (fun l=>K (single l) h) nx:=rfl
theorem enter {P:Program} {f:FuncId} {fn:Func} {c:Code} {nt:Nat} {rs:List ResultVar} {first cap:Array Value} {vs:List Value} {h:IH} {K:Value→IH→Prop}
  (hf:P.funcs[f]?=some fn) (hb:fn.body=some c) (hn:fn.ntmps=nt) (hr:fn.results.toList=rs) (hl:(first.toList ++ (vs ++ cap.toList)).length≤nt)
  (w:Do (wpC P f nt none c (jc 0 (first.toList ++ (vs ++ cap.toList))) h) (Nh P rs K) nx):WV P (.func (.func f) first cap) vs h K :=
 Jv hf hb hn hr hl w
theorem call {P:Program} {fv:Value} {vs:List Value} {h:IH} {K L:Value→IH→Prop} (w:WV P fv vs h L) (k : ∀v h',L v h'→K v h'):Do (WV P fv vs h) K nx:=w.mono k
@[reducible] def Pst (p:Prop) (_:Nx p):Prop:=p
theorem cut {P:Program} {fn:FuncId} {nt:Nat} {rd:Option Nat} {a:Code} {fr:Fr} {h:IH} {K:Fr→IH→Prop} {Q:bd→Fr→IH→Prop} (R:Fr→IH→Prop)
  (w:Do (wpC P fn nt rd a fr h) (ot (fun fr h=>Pst (R fr h) nx) Q) nx) (k : ∀fr h,R fr h→K fr h):Do (wpC P fn nt rd a fr h) (ot K Q) nx :=
 kZ (fun e fr h w=>by cases e<;>first|exact k _ _ w|exact w) w
def KK (I:Nat→Fr→IH→Prop) (m:Nat) (Q:bd→Fr→IH→Prop) (e:bd) (fr:Fr) (h:IH):Prop:=match e with
 | .normal => ∃m',m'<m∧I m' fr h
 | .exit i=>Q (.exit i) fr h
 | .ret=>Q .ret fr h
theorem xf (I:Nat→Fr→IH→Prop) (m:Nat) (Q:bd→Fr→IH→Prop) (i:Nat) (fr:Fr) (h:IH):KK I m Q (.exit i) fr h=Q (.exit i) fr h:=rfl
theorem zM (I:Nat→Fr→IH→Prop) (m:Nat) (Q:bd→Fr→IH→Prop) (fr:Fr) (h:IH):KK I m Q .ret fr h=Q .ret fr h:=rfl
theorem loop {P:Program} {fn:FuncId} {nt:Nat} {rd:Option Nat} {b:Code} {Q:bd→Fr→IH→Prop} (I:Nat→Fr→IH→Prop) {fr:Fr} {h:IH} (m:Nat) (start:I m fr h)
  (step : ∀m fr h,I m fr h→Do (wpC P fn nt rd b fr h) (KK I m Q) nx) (hm:oR b=none:=by rfl):Do (uQ P fn nt rd b fr h) Q nx :=
 Rh I (fun m fr h hi=>step m fr h hi) start hm
theorem L5 (tr:List (Fr×IH)) (n:Nat) (K:Fr→IH→Prop) (u:Nx K):Do (Ef tr n) K u=Do (Ex tr[n]?) (fun p=>K p.1 p.2) nx:=rfl
theorem ak {P:Program} {ops:List Oper} {tr:List (Fr×IH)} {i p:Nat} {o:Oper} {fr fr':Fr} {h h':IH} (ho:ops[i]?=some o) (hi:tr[i]?=some (fr,h)) (hw:bQ ops o fr=some true) (hp:tr[p]?=some (fr',h')) (hs:gT P fr o.op h h'=true):cD P ops tr [(i,[p])]:=by
 refine⟨?_,trivial⟩
 simp only[ho,hi,hw]
 intro q hq
 simp only[List.mem_singleton] at hq
 subst hq
 simp only[hp]
 exact hs
theorem AK {P:Program} {ops:List Oper} {tr:List (Fr×IH)} {i:Nat} {l:List Nat} {o:Oper} {fr:Fr} {h:IH} (ho:ops[i]?=some o) (hi:tr[i]?=some (fr,h)) (hw:bQ ops o fr=some false):cD P ops tr [(i,l)]:=by
 refine⟨?_,trivial⟩
 simp only[ho,hi,hw]
theorem jG {P:Program} {ops:List Oper} {tr:List (Fr×IH)} {e:Nat×List Nat} {l:List (Nat×List Nat)} (h1:cD P ops tr [e]) (h2:cD P ops tr l):cD P ops tr (e :: l):=⟨h1.1,h2⟩
theorem rp {P:Program} {ops:List Oper} {tr:List (Fr×IH)} {i p:Nat} {l:List Nat} (h1:cD P ops tr [(i,[p])]) (h2:cD P ops tr [(i,l)]):cD P ops tr [(i,p :: l)]:=by
 refine⟨?_,trivial⟩
 have a:=h1.1
 have b:=h2.1
 simp only at a b ⊢
 cases ho:ops[i]? with
 | none=>simp only[ho] at a
 | some o =>
  cases hi:tr[i]? with
  | none=>simp only[ho,hi] at a
  | some x =>
   obtain⟨fr,h⟩:=x
   simp only[ho,hi] at a b ⊢
   cases hw:bQ ops o fr with
   | none=>trivial
   | some w =>
    cases w with
    | false=>trivial
    | true =>
     simp only[hw] at a b ⊢
     intro q hq
     rcases List.mem_cons.1 hq with rfl|hq
     ·exact a q (by simp)
     ·exact b q hq
theorem drawn {P:Program} {fn:FuncId} {nt:Nat} {rd:Option Nat} {id:Nat} {ops:Array Oper} {fr:Fr} {h:IH} {Q:bd→Fr→IH→Prop} (pl:List (Nat×List Nat)) (ho:ni ops.toList=true) (hp:zy ops.toList=pl) (hne:pl.isEmpty=false)
  (w:Do (cC P nt ops.toList ops.toList fr h []) (fun tr=>Pst (cD P ops.toList tr pl∧Do (Ef tr ops.toList.length) (Q .normal) nx) nx) nx):Do (wpC P fn nt rd (.region id ops true) fr h) Q nx:=by
 subst hp
 refine⟨fun hc=>?_,fun _=>⟨ho,w⟩⟩
 simp[fG,List.isEmpty_iff] at hc hne
 exact absurd hc.2 hne
theorem Hf (P:Program) (fn:FuncId) (nt:Nat) (rd:Option Nat) (l:Nat) (fr:Fr) (h:IH) (Q:bd→Fr→IH→Prop) (u:Nx Q):Do (wpC P fn nt rd (.label l) fr h) Q u=Q .normal fr h:=rfl
theorem wD (v:Value):single [v]=v:=rfl
theorem wE:single []=.tuple #[]:=rfl
theorem wC (a b:Value):single [a,b]=.tuple #[a,b]:=rfl
theorem rL (a b c:Value):single [a,b,c]=.tuple #[a,b,c]:=rfl
theorem KQ (h:IH) (b o:Nat):ld h b o=(h.row b).bind (·[o]?):=rfl
theorem CX {α:Type} (l:List α) : [] ++ l=l:=rfl
theorem DX {α:Type} (l:List α):l ++ []=l:=List.append_nil l
theorem Ai {α:Type} (x:α) (l m:List α):(x :: l) ++ m=x :: (l ++ m):=rfl
theorem Dq {α:Type} {d:Decidable True} (a b:α):ite True a b=a:=if_pos trivial
theorem zR {α:Type} {d:Decidable False} (a b:α):ite False a b=b:=if_neg id
theorem yn {α β:Type} (a:α) (f:α→Option β):(some a).bind f=f a:=rfl
theorem zI {α β:Type} (a:α) (f:α→β):(some a).map f=some (f a):=rfl
theorem zV {α:Type} (x:α) (l:List α):(x :: l)[0]?=some x:=rfl
theorem zW {α:Type} (x:α) (l:List α) (n:Nat):(x :: l)[n+1]?=l[n]?:=rfl
theorem Dw {α:Type} (l:List α) (n:Nat):l.toArray[n]?=l[n]?:=List.getElem?_toArray
theorem Ga {α:Type} (l:List α):l.toArray.toList=l:=rfl
theorem Ce:undef=Value.tuple #[]:=rfl
def wpS:=And.intro @LX (And.intro @DM (And.intro @Hm (And.intro @Ps (And.intro @LZ (And.intro @Hc (And.intro @Hl (And.intro @LW (
 And.intro @Af (And.intro @xX (And.intro @Ma (And.intro @Ah (And.intro @uK (And.intro @uJ (And.intro @LS (And.intro @Ag (
 And.intro @uI (And.intro @sW (And.intro @Hd (And.intro @Hj (And.intro @Hi (And.intro (And.intro @xW (And.intro @CY (And.intro @zG (And.intro @CZ @Hf)))) (And.intro @DK (And.intro (And.intro @uH @DL) (
 And.intro @Ae (And.intro @Hg (And.intro @Pq (And.intro @xV (And.intro @Pr (And.intro @L7 (And.intro @Hh (And.intro @LU (
 And.intro @G9 (And.intro @DI (And.intro @um (And.intro @zt (And.intro @CD (And.intro @qt (And.intro @yj (And.intro @uO (
 And.intro @uP (And.intro @LV (And.intro @DJ (And.intro @L9 (And.intro @kf (And.intro @L8 (And.intro @Hk (And.intro @LY (
 And.intro @He (And.intro @uG (And.intro @L6 (And.intro @Pp (And.intro @uq (And.intro @CH (And.intro @xf (And.intro @zM (
 And.intro @Po (And.intro @Ac (And.intro @xQ (And.intro @DG (And.intro @BM (And.intro @yi (And.intro @GJ (And.intro @CT (
 And.intro @wW (And.intro @qi (And.intro @oG (And.intro @mz (And.intro @lW (And.intro @lE (And.intro @mA (And.intro @mB (
 And.intro @CR (And.intro @zF (And.intro @ux (And.intro @se (And.intro @uz (And.intro @uy (And.intro @mK (And.intro @sN (
 And.intro @uF (And.intro @CX (And.intro @DX (And.intro @Ai (And.intro @Dq (And.intro @zR (And.intro @yn (And.intro @zI (
 And.intro @and_true (And.intro @true_and (And.intro @Nat.zero_add (And.intro @Nat.add_zero (And.intro @Nat.zero_mul (And.intro @Nat.one_mul (And.intro @Nat.mul_one (And.intro @oz (
 And.intro @qf (And.intro @rT (And.intro @qg (And.intro @AB (And.intro @Aq (And.intro @Av (And.intro @AA (And.intro @Au (
 And.intro @Aw (And.intro @Ax (And.intro @Ay (And.intro @Az (And.intro @Mx (And.intro @Pz (And.intro @Mo (And.intro @Mw (
 And.intro @My (And.intro @PA (And.intro @DW (And.intro @J3 (And.intro @OR (And.intro @J4 (And.intro @J5 (And.intro @OY (
 And.intro @OW (And.intro @Ke (And.intro @zd (And.intro @ze (And.intro @wrap_i64 (And.intro @rk (And.intro @wrap_u8 (And.intro @B0 (
 And.intro @wrap_u32 (And.intro @Int.toNat_natCast (And.intro @Int.toNat_one (And.intro @Int.toNat_zero (And.intro @builtin_len (And.intro @gZ (And.intro @qm (And.intro @pJ (
 And.intro @xL (And.intro @KQ (And.intro @OV (And.intro @yo (And.intro @zV (And.intro @zW (And.intro @Dw (And.intro @Ga (
 And.intro @An (And.intro @yf (And.intro @uN (And.intro @Al (And.intro @Ao (And.intro @ye (And.intro @qp (And.intro @Am (
 And.intro @tc (And.intro @al (And.intro @w6 (And.intro @aq (And.intro @wT (And.intro @kN (And.intro @uo (And.intro @rS (
 And.intro @ov (And.intro @aa (And.intro @ao (And.intro @ad (And.intro @ae (And.intro @wD (And.intro @wC (And.intro @wE (
 And.intro @rL (And.intro @L5 (@Ce))))))))))))))))))))))))))))))))))))))))))))))))))))))))))))))))))))))))))))))))))))))))))))))))))))))))))))))))))))))))))))))))))))))))))))))))))))))))))))))))))))))))))
def wpR:=And.intro @LX (And.intro @DM (And.intro @Hm (And.intro @Ps (And.intro @LZ (And.intro @Hc (And.intro @Hl (And.intro @LW (
 And.intro @Af (And.intro @xX (And.intro @Ma (And.intro @Ah (And.intro @uK (And.intro @uJ (And.intro @LS (And.intro @Ag (
 And.intro @uI (And.intro @sW (And.intro @Hd (And.intro @Hj (And.intro @Hi (And.intro (And.intro @xW (And.intro @CY (And.intro @zG (And.intro @CZ @Hf)))) (And.intro @DK (And.intro (And.intro @uH @DL) (
 And.intro @Ae (And.intro @Hg (And.intro @Pq (And.intro @xV (And.intro @Pr (And.intro @L7 (And.intro @Hh (And.intro @LU (
 And.intro @G9 (And.intro @DI (And.intro @um (And.intro @zt (And.intro @CD (And.intro @qt (And.intro @yj (And.intro @uO (
 And.intro @uP (And.intro @LV (And.intro @DJ (And.intro @L9 (And.intro @L8 (And.intro @Hk (And.intro @LY (And.intro @He (
 And.intro @uG (And.intro @L6 (And.intro @Pp (And.intro @uq (And.intro @CH (And.intro @xf (And.intro @zM (And.intro @Po (
 And.intro @Ac (And.intro @xQ (And.intro @DG (And.intro @BM (And.intro @yi (And.intro @GJ (And.intro @CT (And.intro @wW (
 And.intro @qi (And.intro @oG (And.intro @mz (And.intro @lW (And.intro @lE (And.intro @mA (And.intro @mB (And.intro @CR (
 And.intro @zF (And.intro @ux (And.intro @se (And.intro @uz (And.intro @uy (And.intro @mK (And.intro @sN (And.intro @uF (
 And.intro @CX (And.intro @DX (And.intro @Ai (And.intro @Dq (And.intro @zR (And.intro @yn (And.intro @zI (And.intro @and_true (
 And.intro @true_and (And.intro @Nat.zero_add (And.intro @Nat.add_zero (And.intro @Nat.zero_mul (And.intro @Nat.one_mul (And.intro @Nat.mul_one (And.intro @oz (And.intro @qf (
 And.intro @rT (And.intro @qg (And.intro @AB (And.intro @Aq (And.intro @Av (And.intro @AA (And.intro @Au (And.intro @Aw (
 And.intro @Ax (And.intro @Ay (And.intro @Az (And.intro @Mx (And.intro @Pz (And.intro @Mo (And.intro @Mw (And.intro @My (
 And.intro @PA (And.intro @DW (And.intro @J3 (And.intro @OR (And.intro @J4 (And.intro @J5 (And.intro @OY (And.intro @OW (
 And.intro @Ke (And.intro @zd (And.intro @ze (And.intro @wrap_i64 (And.intro @rk (And.intro @wrap_u8 (And.intro @B0 (And.intro @wrap_u32 (
 And.intro @Int.toNat_natCast (And.intro @Int.toNat_one (And.intro @Int.toNat_zero (And.intro @builtin_len (And.intro @gZ (And.intro @qm (And.intro @pJ (And.intro @xL (
 And.intro @KQ (And.intro @OV (And.intro @yo (And.intro @zV (And.intro @zW (And.intro @Dw (And.intro @Ga (And.intro @An (
 And.intro @yf (And.intro @uN (And.intro @Al (And.intro @Ao (And.intro @ye (And.intro @qp (And.intro @Am (And.intro @tc (
 And.intro @al (And.intro @w6 (And.intro @aq (And.intro @wT (And.intro @kN (And.intro @uo (And.intro @rS (And.intro @ov (
 And.intro @aa (And.intro @ao (And.intro @ad (And.intro @ae (And.intro @wD (And.intro @wC (And.intro @wE (And.intro @rL (
 And.intro @L5 (@Ce)))))))))))))))))))))))))))))))))))))))))))))))))))))))))))))))))))))))))))))))))))))))))))))))))))))))))))))))))))))))))))))))))))))))))))))))))))))))))))))))))))))))))
end Go.Id
