/-
  Weakest preconditions over the ideal machine, sixth part: bits of numbers that are not negative. Weakest preconditions over the ideal machine, seventh part: one step after the other. A continuation stands where the simplifier does not look (an argument depends on it); run with 'simp -dsimp'.
-/
import Derived.Test.YtnanhedgenokpaaGreatTemperDetailedAq
set_option linter.unusedVariables false
set_option linter.unusedSimpArgs false
set_option linter.defProp false
set_option linter.deprecated false
namespace Go.Id
open Go
abbrev K64 (n:Nat):Value:=.int .u64 (n:Int)
abbrev KI (n:Int):Value:=.int .i64 n
theorem ofInt_toNat {w:Nat} {a:Nat} (h:a<2 ^ w):(BitVec.ofInt w (a:Int)).toNat=a:=by
 simp[Nat.mod_eq_of_lt h]
theorem bv_and {w a b:Nat} (ha:a<2 ^ w) (hb:b<2 ^ w):(BitVec.ofInt w (a:Int) &&& BitVec.ofInt w (b:Int)).toNat=a &&& b:=by
 rw[BitVec.toNat_and,ofInt_toNat ha,ofInt_toNat hb]
theorem bv_or {w a b:Nat} (ha:a<2 ^ w) (hb:b<2 ^ w):(BitVec.ofInt w (a:Int) ||| BitVec.ofInt w (b:Int)).toNat=a ||| b:=by
 rw[BitVec.toNat_or,ofInt_toNat ha,ofInt_toNat hb]
theorem bv_xor {w a b:Nat} (ha:a<2 ^ w) (hb:b<2 ^ w):(BitVec.ofInt w (a:Int) ^^^ BitVec.ofInt w (b:Int)).toNat=a ^^^ b:=by
 rw[BitVec.toNat_xor,ofInt_toNat ha,ofInt_toNat hb]
theorem bv_clr {w a b:Nat} (ha:a<2 ^ w) (hb:b<2 ^ w):(BitVec.ofInt w (a:Int) &&& ~~~BitVec.ofInt w (b:Int)).toNat=nclr a b:=by
 apply Nat.eq_of_testBit_eq
 intro i
 rw[testBit_nclr,BitVec.toNat_and,Nat.testBit_and,ofInt_toNat ha,BitVec.testBit_toNat,BitVec.getLsbD_not,←BitVec.testBit_toNat,ofInt_toNat hb]
 by_cases hi:i<w
 ·simp[hi]
 ·rw[Nat.testBit_lt_two_pow (Nat.lt_of_lt_of_le ha (Nat.pow_le_pow_right (by omega) (by omega)))];simp
section
variable (P:Program) (t:TypeId) (ox oy:Operand) {a b:Int}
theorem band_u (ha:0≤a∧a<18446744073709551616) (hb:0≤b∧b<18446744073709551616):binop P .and t ox oy (.int .u64 a) (.int .u64 b)=some (.int .u64 ((a.toNat &&& b.toNat:Nat):Int)):=by
 obtain⟨m,rfl⟩:=Int.eq_ofNat_of_zero_le ha.1;obtain⟨n,rfl⟩:=Int.eq_ofNat_of_zero_le hb.1
 have h1:m<2 ^ 64:=by omega
 rw[binop_and_raw,show(BitVec.ofInt IntKind.u64.bits (m:Int) &&& BitVec.ofInt IntKind.u64.bits (n:Int)).toNat=m &&& n from bv_and (w:=64) h1 (by omega),wrap_nat_u64 (and_lt h1)];rfl
theorem bor_u (ha:0≤a∧a<18446744073709551616) (hb:0≤b∧b<18446744073709551616):binop P .or t ox oy (.int .u64 a) (.int .u64 b)=some (.int .u64 ((a.toNat ||| b.toNat:Nat):Int)):=by
 obtain⟨m,rfl⟩:=Int.eq_ofNat_of_zero_le ha.1;obtain⟨n,rfl⟩:=Int.eq_ofNat_of_zero_le hb.1
 have h1:m<2 ^ 64:=by omega
 rw[binop_or_raw,show(BitVec.ofInt IntKind.u64.bits (m:Int) ||| BitVec.ofInt IntKind.u64.bits (n:Int)).toNat=m ||| n from bv_or (w:=64) h1 (by omega),wrap_nat_u64 (or_lt h1 (by omega))];rfl
theorem bxor_u (ha:0≤a∧a<18446744073709551616) (hb:0≤b∧b<18446744073709551616):binop P .xor t ox oy (.int .u64 a) (.int .u64 b)=some (.int .u64 ((a.toNat ^^^ b.toNat:Nat):Int)):=by
 obtain⟨m,rfl⟩:=Int.eq_ofNat_of_zero_le ha.1;obtain⟨n,rfl⟩:=Int.eq_ofNat_of_zero_le hb.1
 have h1:m<2 ^ 64:=by omega
 rw[binop_xor_raw,show(BitVec.ofInt IntKind.u64.bits (m:Int) ^^^ BitVec.ofInt IntKind.u64.bits (n:Int)).toNat=m ^^^ n from bv_xor (w:=64) h1 (by omega),wrap_nat_u64 (Nat.xor_lt_two_pow h1 (by omega))];rfl
theorem bclr_u (ha:0≤a∧a<18446744073709551616) (hb:0≤b∧b<18446744073709551616):binop P .andNot t ox oy (.int .u64 a) (.int .u64 b)=some (.int .u64 ((nclr a.toNat b.toNat:Nat):Int)):=by
 obtain⟨m,rfl⟩:=Int.eq_ofNat_of_zero_le ha.1;obtain⟨n,rfl⟩:=Int.eq_ofNat_of_zero_le hb.1
 have h1:m<2 ^ 64:=by omega
 rw[binop_andNot_raw,show(BitVec.ofInt IntKind.u64.bits (m:Int) &&& ~~~BitVec.ofInt IntKind.u64.bits (n:Int)).toNat=nclr m n from bv_clr (w:=64) h1 (by omega),wrap_nat_u64 (nclr_lt h1)];rfl
theorem band_i (ha:0≤a∧a<9223372036854775808) (hb:0≤b∧b<9223372036854775808):binop P .and t ox oy (.int .i64 a) (.int .i64 b)=some (.int .i64 ((a.toNat &&& b.toNat:Nat):Int)):=by
 obtain⟨m,rfl⟩:=Int.eq_ofNat_of_zero_le ha.1;obtain⟨n,rfl⟩:=Int.eq_ofNat_of_zero_le hb.1
 have h1:m<2 ^ 63:=by omega
 rw[binop_and_raw,show(BitVec.ofInt IntKind.i64.bits (m:Int) &&& BitVec.ofInt IntKind.i64.bits (n:Int)).toNat=m &&& n from bv_and (w:=64) (by omega) (by omega),wrap_nat_i64 (and_lt h1)];rfl
theorem bor_i (ha:0≤a∧a<9223372036854775808) (hb:0≤b∧b<9223372036854775808):binop P .or t ox oy (.int .i64 a) (.int .i64 b)=some (.int .i64 ((a.toNat ||| b.toNat:Nat):Int)):=by
 obtain⟨m,rfl⟩:=Int.eq_ofNat_of_zero_le ha.1;obtain⟨n,rfl⟩:=Int.eq_ofNat_of_zero_le hb.1
 have h1:m<2 ^ 63:=by omega
 rw[binop_or_raw,show(BitVec.ofInt IntKind.i64.bits (m:Int) ||| BitVec.ofInt IntKind.i64.bits (n:Int)).toNat=m ||| n from bv_or (w:=64) (by omega) (by omega),wrap_nat_i64 (or_lt h1 (by omega))];rfl
theorem band_neg (ha:0<a∧a<9223372036854775808):binop P .and t ox oy (.int .i64 a) (.int .i64 (-a))=some (.int .i64 ((2 ^ 64 - a.toNat &&& a.toNat:Nat):Int)):=by
 obtain⟨m,rfl⟩:=Int.eq_ofNat_of_zero_le (Int.le_of_lt ha.1)
 have h1:m<2 ^ 63:=by omega
 have h2:BitVec.ofInt 64 (-(m:Int))=BitVec.ofInt 64 ((2 ^ 64 - m:Nat):Int):=by
  apply BitVec.eq_of_toNat_eq
  rw[BitVec.toNat_ofInt,BitVec.toNat_ofInt]
  congr 1
  omega
 rw[binop_and_raw,show(BitVec.ofInt IntKind.i64.bits (m:Int) &&& BitVec.ofInt IntKind.i64.bits (-(m:Int))).toNat=2 ^ 64 - m &&& m from by
  show(BitVec.ofInt 64 (m:Int) &&& BitVec.ofInt 64 (-(m:Int))).toNat=_
  rw[h2,bv_and (by omega) (by omega),Nat.and_comm],wrap_nat_i64 (Nat.lt_of_le_of_lt Nat.and_le_right h1)];rfl
theorem fdiv_shr (m n:Nat) (k:Nat) (h:m<2 ^ k):Int.fdiv (m:Int) (2 ^ min n k)=((m >>> n:Nat):Int):=by
 have e:(2:Int) ^ min n k=((2 ^ min n k:Nat):Int):=by simp
 rw[e,Int.fdiv_eq_ediv_of_nonneg _ (Int.natCast_nonneg _),←Int.natCast_ediv,Nat.shiftRight_eq_div_pow]
 by_cases hn:n≤k
 ·rw[Nat.min_eq_left hn]
 ·rw[Nat.min_eq_right (by omega),Nat.div_eq_of_lt h,Nat.div_eq_of_lt (Nat.lt_of_lt_of_le h (Nat.pow_le_pow_right (by omega) (by omega)))]
def nshr (a n:Nat):Nat:=a >>> n
theorem nshr_le (a n:Nat):nshr a n≤a:=Nat.shiftRight_le a n
theorem shr_u {j:IntKind} (ha:0≤a∧a<18446744073709551616) (hb:0≤b):binop P .shr t ox oy (.int .u64 a) (.int j b)=some (.int .u64 ((nshr a.toNat b.toNat:Nat):Int)):=by
 obtain⟨m,rfl⟩:=Int.eq_ofNat_of_zero_le ha.1;obtain⟨n,rfl⟩:=Int.eq_ofNat_of_zero_le hb
 rw[binop_shr P t ox oy (by omega)]
 show some (Value.int .u64 (Int.fdiv (m:Int) (2 ^ min n 64)))=_
 rw[fdiv_shr m n 64 (by omega)];rfl
theorem shr_i {j:IntKind} (ha:0≤a∧a<9223372036854775808) (hb:0≤b):binop P .shr t ox oy (.int .i64 a) (.int j b)=some (.int .i64 ((nshr a.toNat b.toNat:Nat):Int)):=by
 obtain⟨m,rfl⟩:=Int.eq_ofNat_of_zero_le ha.1;obtain⟨n,rfl⟩:=Int.eq_ofNat_of_zero_le hb
 rw[binop_shr P t ox oy (by omega)]
 show some (Value.int .i64 (Int.fdiv (m:Int) (2 ^ min n 64)))=_
 rw[fdiv_shr m n 64 (by omega)];rfl
theorem shl1_u {j:IntKind} (hb:0≤b∧b<64):binop P .shl t ox oy (.int .u64 1) (.int j b)=some (.int .u64 ((2 ^ b.toNat:Nat):Int)):=by
 obtain⟨n,rfl⟩:=Int.eq_ofNat_of_zero_le hb.1
 rw[binop_shl P t ox oy (by omega)]
 show some (Value.int .u64 (IntKind.u64.wrap (1*2 ^ min n 64)))=_
 rw[Nat.min_eq_left (by omega),Int.one_mul,show(2:Int) ^ n=((2 ^ n:Nat):Int) from by simp,wrap_nat_u64 (Nat.pow_lt_pow_right (by omega) (by omega))];rfl
theorem shl1_i {j:IntKind} (hb:0≤b∧b<63):binop P .shl t ox oy (.int .i64 1) (.int j b)=some (.int .i64 ((2 ^ b.toNat:Nat):Int)):=by
 obtain⟨n,rfl⟩:=Int.eq_ofNat_of_zero_le hb.1
 rw[binop_shl P t ox oy (by omega)]
 show some (Value.int .i64 (IntKind.i64.wrap (1*2 ^ min n 64)))=_
 rw[Nat.min_eq_left (by omega),Int.one_mul,show(2:Int) ^ n=((2 ^ n:Nat):Int) from by simp,wrap_nat_i64 (Nat.pow_lt_pow_right (by omega) (by omega))];rfl
theorem quo_i (ha:0≤a∧a<9223372036854775808) (hb:0<b):binop P .quo t ox oy (.int .i64 a) (.int .i64 b)=some (.int .i64 (a / b)):=by
 rw[binop_quo P t ox oy (by omega),Int.tdiv_eq_ediv_of_nonneg ha.1]
 have h1:0≤a / b:=Int.ediv_nonneg ha.1 (by omega)
 have h2:a / b≤a:=Int.ediv_le_self _ ha.1
 rw[wrap_i64 (by omega)]
theorem quo_u (ha:0≤a∧a<18446744073709551616) (hb:0<b):binop P .quo t ox oy (.int .u64 a) (.int .u64 b)=some (.int .u64 (a / b)):=by
 rw[binop_quo P t ox oy (by omega),Int.tdiv_eq_ediv_of_nonneg ha.1]
 have h1:0≤a / b:=Int.ediv_nonneg ha.1 (by omega)
 have h2:a / b≤a:=Int.ediv_le_self _ ha.1
 rw[wrap_u64 (by omega)]
theorem rem_nn {k:IntKind} (ha:0≤a) (hb:0<b):binop P .rem t ox oy (.int k a) (.int k b)=some (.int k (a % b)):=by
 rw[binop_rem P t ox oy (by omega),Int.tmod_eq_emod_of_nonneg ha]
end
theorem rd_eq (h:IH) (b o n:Nat):h.rd b o n=(h.row b).bind fun cs=>if o+n≤cs.length then some ((cs.drop o).take n) else none:=by
 cases hr:h.row b with
 | none=>simp[IH.rd,hr]
 | some cs=>rw[rd_of hr];rfl
end Go.Id

namespace Go.Id
open Go
def Nx {α:Type} (_:α):Type:=Unit
def nx {α:Type} {a:α}:Nx a:=()
def Do {κ:Type} (m:κ→Prop) (K:κ) (_:Nx K):Prop:=m K
def Bq (b:Bool) (pq:Prop×Prop) (_:Nx pq):Prop:=Br b pq.1 pq.2
theorem do_ex {α:Type} (v:α) (K:α→Prop) (u:Nx K):Do (Ex (some v)) K u=K v:=Ex_some v K
theorem do_ex_map {α β:Type} (o:Option α) (f:α→β) (K:β→Prop) (u:Nx K):Do (Ex (o.map f)) K u=Do (Ex o) (fun v=>K (f v)) nx:=Ex_map o f K
theorem do_ex_bind {α β:Type} (o:Option α) (f:α→Option β) (K:β→Prop) (u:Nx K):Do (Ex (o.bind f)) K u=Do (Ex o) (fun v=>Do (Ex (f v)) K nx) nx:=Ex_bind o f K
theorem do_ex_if {α:Type} (c:Prop) [Decidable c] (v:Option α) (hc:c) (K:α→Prop) (u:Nx K):Do (Ex (if c then v else none)) K u=Do (Ex v) K nx:=by rw[if_pos hc];rfl
theorem bq_true (p q:Prop) (u:Nx (p,q)):Bq true (p,q) u=p:=Br_true p q
theorem bq_false (p q:Prop) (u:Nx (p,q)):Bq false (p,q) u=q:=Br_false p q
theorem bq_intro {b:Bool} {p q:Prop} (h1:b=true→p) (h2:b=false→q):Bq b (p,q) nx:=Br.intro h1 h2
def nilC:Value→Option Value
 | .pointer (some a)=>some (.pointer (some a))
 | .func (.func f) xs ys=>some (.func (.func f) xs ys)
 | .func (.yield f) xs ys=>some (.func (.yield f) xs ys)
 | .map r=>some (.map r)
 | _=>none
theorem nilC_ptr (b o:Nat):nilC (ptr b o)=some (ptr b o):=rfl
theorem nilC_func (f:FuncId) (xs ys:Array Value):nilC (.func (.func f) xs ys)=some (.func (.func f) xs ys):=rfl
theorem nilC_map (r:Option Nat):nilC (.map r)=some (.map r):=rfl
section
variable (P:Program) (fr:Fr) (h:IH) (K:Value→IH→Prop) (u:Nx K)
theorem d_move (x:Operand):Do (wpOp P (.move x) fr h) K u=Do (Ex (opd fr x)) (fun v=>K v h) nx:=rfl
theorem d_assign (x:Operand):Do (wpOp P (.assign x) fr h) K u=Do (Ex (opd fr x)) (fun v=>K v h) nx:=rfl
theorem d_alloc (t:TypeId):Do (wpOp P (.alloc t) fr h) K u=Do (Ex (zeroCellsT P t)) (fun z=>K (ptr (2*h.n) 0) (h.new (.cells z 0 none))) nx:=rfl
theorem d_box (t:TypeId) (x:Operand):Do (wpOp P (.box t x) fr h) K u=Do (Ex (opd fr x)) (fun v=>K (ptr (2*h.n) 0) (h.new (.cells v.cells.toList 0 none))) nx:=rfl
theorem d_load (t:TypeId) (a:Operand):Do (wpOp P (.load t a) fr h) K u=Do (Ex (opd fr a)) (fun a=>Do (Ex (load P h t a)) (fun v=>K v h) nx) nx:=rfl
theorem d_store (t:TypeId) (a x:Operand):Do (wpOp P (.store t a x) fr h) K u=Do (Ex (opd fr a)) (fun a=>Do (Ex (opd fr x)) (fun x=>Do (Ex (store P h t a x)) (fun h=>K undef h) nx) nx) nx:=rfl
theorem d_binOp (op:BinOp) (t:TypeId) (x y:Operand) (s:TypeId):Do (wpOp P (.binOp op t x y s) fr h) K u=Do (Ex (opd fr x)) (fun a=>Do (Ex (opd fr y)) (fun b=>Do (Ex (binop P op t x y a b)) (fun v=>K v h) nx) nx) nx:=rfl
theorem d_pick (c a b:Operand):Do (wpOp P (.pick c a b) fr h) K u=Do (Ex (opd fr c)) (fun c=>Do (Ex (opd fr a)) (fun a=>Do (Ex (opd fr b)) (fun b=>match c with
  | .bool c=>Bq c (K a h,K b h) nx
  | _=>False) nx) nx) nx:=by
 show wpOp P (.pick c a b) fr h K=_
 rw[wpOp_pick]
 show _=Ex (opd fr c) _
 congr 1;funext c
 show _=Ex (opd fr a) _
 congr 1;funext a
 show _=Ex (opd fr b) _
 congr 1;funext b
 cases c<;>simp
 rename_i c
 cases c<;>simp[bq_true,bq_false]
theorem d_extract (x:Operand) (i:Nat):Do (wpOp P (.extract x i) fr h) K u=Do (Ex (opd fr x)) (fun x=>match x with
  | .tuple vs=>Do (Ex vs[i]?) (fun v=>K v h) nx
  | _=>False) nx:=rfl
theorem d_makeFunc (f:FuncId) (a b:Array Operand):Do (wpOp P (.makeFunc (.func f) a b) fr h) K u=Do (Ex (opds fr a.toList)) (fun x=>Do (Ex (opds fr b.toList)) (fun y=>K (.func (.func f) x.toArray y.toArray) h) nx) nx:=rfl
theorem d_call (f:Operand) (args:Array Operand) (ts:Array TypeId):Do (wpOp P (.call ⟨.value f,args,ts⟩) fr h) K u=Do (Ex (opd fr f)) (fun fv=>Do (Ex (opds fr args.toList)) (fun vs=>Do (WV P fv vs h) K nx) nx) nx:=rfl
theorem d_builtin (b:Builtin) (args:Array Operand) (ts:Array TypeId):Do (wpOp P (.call ⟨.builtin b,args,ts⟩) fr h) K u=Do (Ex (opds fr args.toList)) (fun vs=>Do (Ex (builtin P h b ts vs)) (fun r=>K r.1 r.2) nx) nx:=rfl
theorem d_fieldAddr (t:TypeId) (x:Operand) (f:Nat):Do (wpOp P (.fieldAddr t x f) fr h) K u=Do (Ex (opd fr x)) (fun x=>Do (Ex (fieldAt P t f)) (fun off=>Do (Ex (asAddr x)) (fun a=>K (ptr a.1 (a.2+off)) h) nx) nx) nx:=by
 show wpOp P (.fieldAddr t x f) fr h K=_
 rw[wpOp_fieldAddr]
 show _=Ex (opd fr x) _
 congr 1;funext x
 show _=Ex (fieldAt P t f) _
 cases fieldAt P t f<;>cases asAddr x<;>simp[Do]
theorem d_indexAddr (t:TypeId) (x i:Operand):Do (wpOp P (.indexAddr t x i) fr h) K u=Do (Ex (opd fr x)) (fun x=>Do (Ex (opd fr i)) (fun i=>Do (Ex (indexAddr P t x i)) (fun v=>K v h) nx) nx) nx:=rfl
theorem d_unOp (op:UnOp) (t:TypeId) (x:Operand):Do (wpOp P (.unOp op t x) fr h) K u=Do (Ex (opd fr x)) (fun v=>Do (Ex (bif plain v then pureVal P (Op.unary op v) else none)) (fun v=>K v h) nx) nx:=wpOp_unOp P fr h K op t x
theorem d_convert (s d:TypeId) (x:Operand):Do (wpOp P (.convert s d x) fr h) K u=Do (Ex (opd fr x)) (fun v=>Do (Ex (convV P s d v)) (fun v=>K v h) nx) nx:=wpOp_convert P fr h K s d x
theorem d_makeSlice (t:TypeId) (l c:Operand):Do (wpOp P (.makeSlice t l c) fr h) K u=Do (Ex (opd fr l)) (fun l=>Do (Ex (opd fr c)) (fun c=>Do (Ex (makeSlice P h t l c)) (fun r=>K r.1 r.2) nx) nx) nx:=wpOp_makeSlice P fr h K t l c
theorem d_buildSlice (t:TypeId) (n:Nat) (ps:Array (Nat×Operand)):Do (wpOp P (.buildSlice t n ps) fr h) K u=Do (Ex (partsOf fr ps.toList)) (fun ps=>Do (Ex (buildSlice P h t n ps)) (fun r=>K r.1 r.2) nx) nx:=wpOp_buildSlice P fr h K t n ps
theorem d_slice (t:TypeId) (x:Operand) (lo hi mx:Option Operand):Do (wpOp P (.slice t x lo hi mx) fr h) K u=Do (Ex (opd fr x)) (fun x=>Do (Ex (optOpd fr lo)) (fun lo=>Do (Ex (optOpd fr hi)) (fun hi=>Do (Ex (optOpd fr mx)) (fun mx=>Do (Ex (sliceOp P h t x lo hi mx)) (fun v=>K v h) nx) nx) nx) nx) nx:=wpOp_slice P fr h K t x lo hi mx
theorem d_build (t:TypeId) (ps:Array (Nat×Operand)):Do (wpOp P (.build t ps) fr h) K u=Do (Ex (partsOf fr ps.toList)) (fun ps=>Do (Ex (buildV P t ps)) (fun v=>K v h) nx) nx:=wpOp_build P fr h K t ps
theorem d_field (t:TypeId) (x:Operand) (f:Nat):Do (wpOp P (.field t x f) fr h) K u=Do (Ex (opd fr x)) (fun x=>Do (Ex (fieldV P t f x)) (fun v=>K v h) nx) nx:=wpOp_field P fr h K t x f
theorem d_nilCheck (x:Operand):Do (wpOp P (.nilCheck x) fr h) K u=Do (Ex (opd fr x)) (fun x=>Do (Ex (nilC x)) (fun v=>K v h) nx) nx:=by
 show wpOp P (.nilCheck x) fr h K=_
 rw[wpOp_nilCheck]
 show _=Ex (opd fr x) _
 congr 1;funext x
 show _=Ex (nilC x) _
 cases x with
 | pointer a=>cases a<;>simp[nilC]
 | func f xs ys=>cases f<;>simp[nilC]
 | _=>simp[nilC]
theorem d_lookup (t:TypeId) (m k:Operand) (ok:Bool):Do (wpOp P (.lookup t m k ok) fr h) K u=Do (Ex (opd fr m)) (fun m=>Do (Ex (opd fr k)) (fun k=>Do (Ex (lookup P h t m k ok)) (fun v=>K v h) nx) nx) nx:=wpOp_lookup P fr h K t m k ok
theorem d_mapUpdate (t:TypeId) (m k v:Operand):Do (wpOp P (.mapUpdate t m k v) fr h) K u=Do (Ex (opd fr m)) (fun m=>Do (Ex (opd fr k)) (fun k=>Do (Ex (opd fr v)) (fun v=>Do (Ex (mapUpdate P h t m k v)) (fun h=>K undef h) nx) nx) nx) nx:=wpOp_mapUpdate P fr h K t m k v
theorem d_insert (t:TypeId) (m k v:Operand):Do (wpOp P (.insert t m k v) fr h) K u=Do (Ex (opd fr m)) (fun m=>Do (Ex (opd fr k)) (fun k=>Do (Ex (opd fr v)) (fun v=>Do (Ex (mapUpdate P h t m k v)) (fun h=>K undef h) nx) nx) nx) nx:=wpOp_insert P fr h K t m k v
theorem d_makeMap (t:TypeId):Do (wpOp P (.makeMap t none) fr h) K u=K (.map (some (2*h.n))) (h.new (.map [])):=wpOp_makeMap P fr h K t
theorem d_index (t:TypeId) (x i:Operand):Do (wpOp P (.index t x i) fr h) K u=Do (Ex (opd fr x)) (fun x=>Do (Ex (opd fr i)) (fun i=>Do (Ex (indexV P t x i)) (fun v=>K v h) nx) nx) nx:=wpOp_index P fr h K t x i
end
section
variable (P:Program) (nt:Nat) (all:List Oper) (d:Option Tmp) (o:Op) (ty:TypeId) (pos:String) (af:Array Edge) (l:List Oper) (fr:Fr) (h:IH)
theorem d_put (d:Nat) (v:Value) (K:Fr→Prop) (u:Nx K) (hd:d<nt):Do (wpPut nt fr (some d) v) K u=K ((d,v) :: fr):=wpPut_some nt fr d v K hd
theorem d_put_none (v:Value) (K:Fr→Prop) (u:Nx K):Do (wpPut nt fr none v) K u=K fr:=rfl
theorem d_nil (K:Fr→IH→Prop) (u:Nx K):Do (wpOps P nt all [] fr h) K u=K fr h:=rfl
theorem d_cons (K:Fr→IH→Prop) (u:Nx K):Do (wpOps P nt all (⟨d,o,ty,pos,af,none⟩ :: l) fr h) K u=Do (wpOp P o fr h) (fun v h=>Do (wpPut nt fr d v) (fun fr=>Do (wpOps P nt all l fr h) K nx) nx) nx:=rfl
theorem d_guard (j:Nat) (want:Bool) (K:Fr→IH→Prop) (u:Nx K):Do (wpOps P nt all (⟨d,o,ty,pos,af,some (j,want)⟩ :: l) fr h) K u =
  Do (Ex ((all[j]?).bind (·.dst))) (fun g=>Do (Ex (fget fr g)) (fun b=>match b with
   | .bool b=>Bq (b == want) (Do (wpOp P o fr h) (fun v h=>Do (wpPut nt fr d v) (fun fr=>Do (wpOps P nt all l fr h) K nx) nx) nx,Do (wpPut nt fr d undef) (fun fr=>Do (wpOps P nt all l fr h) K nx) nx) nx
   | .tuple _=>Do (wpPut nt fr d undef) (fun fr=>Do (wpOps P nt all l fr h) K nx) nx
   | _=>False) nx) nx:=rfl
theorem d_tnil (tr:List (Fr×IH)) (K:List (Fr×IH)→Prop) (u:Nx K):Do (wpTrace P nt all [] fr h tr) K u=K (tr ++ [(fr,h)]):=rfl
theorem d_tcons (tr:List (Fr×IH)) (K:List (Fr×IH)→Prop) (u:Nx K):Do (wpTrace P nt all (⟨d,o,ty,pos,af,none⟩ :: l) fr h tr) K u=Do (wpOp P o fr h) (fun v h1=>Do (wpPut nt fr d v) (fun fr1=>Do (wpTrace P nt all l fr1 h1 (tr ++ [(fr,h)])) K nx) nx) nx:=rfl
theorem d_tguard (j:Nat) (want:Bool) (tr:List (Fr×IH)) (K:List (Fr×IH)→Prop) (u:Nx K):Do (wpTrace P nt all (⟨d,o,ty,pos,af,some (j,want)⟩ :: l) fr h tr) K u =
  Do (Ex ((all[j]?).bind (·.dst))) (fun g=>Do (Ex (fget fr g)) (fun b=>match b with
   | .bool b=>Bq (b == want) (Do (wpOp P o fr h) (fun v h1=>Do (wpPut nt fr d v) (fun fr1=>Do (wpTrace P nt all l fr1 h1 (tr ++ [(fr,h)])) K nx) nx) nx,Do (wpPut nt fr d undef) (fun fr1=>Do (wpTrace P nt all l fr1 h (tr ++ [(fr,h)])) K nx) nx) nx
   | .tuple _=>Do (wpPut nt fr d undef) (fun fr1=>Do (wpTrace P nt all l fr1 h (tr ++ [(fr,h)])) K nx) nx
   | _=>False) nx) nx:=rfl
end
section
variable (P:Program) (fn:FuncId) (nt:Nat) (rd:Option Nat) (fr:Fr) (h:IH) (Q:IExit→Fr→IH→Prop) (u:Nx Q)
def seqK (K:Fr→IH→Prop) (Q:IExit→Fr→IH→Prop) (e:IExit) (fr:Fr) (h:IH):Prop:=match e with
 | .normal=>K fr h
 | .exit i=>Q (.exit i) fr h
 | .ret=>Q .ret fr h
def blockK (id:Nat) (Q:IExit→Fr→IH→Prop) (e:IExit) (fr:Fr) (h:IH):Prop:=match e with
 | .exit i=>Br (i == id) (Q .normal fr h) (Q (.exit i) fr h)
 | .normal=>Q .normal fr h
 | .ret=>Q .ret fr h
theorem seqK_normal (K:Fr→IH→Prop):seqK K Q .normal fr h=K fr h:=rfl
theorem seqK_exit (K:Fr→IH→Prop) (i:Nat):seqK K Q (.exit i) fr h=Q (.exit i) fr h:=rfl
theorem seqK_ret (K:Fr→IH→Prop):seqK K Q .ret fr h=Q .ret fr h:=rfl
theorem blockK_normal (id:Nat):blockK id Q .normal fr h=Q .normal fr h:=rfl
theorem blockK_ret (id:Nat):blockK id Q .ret fr h=Q .ret fr h:=rfl
theorem blockK_same (id:Nat):blockK id Q (.exit id) fr h=Q .normal fr h:=by simp[blockK]
theorem blockK_exit (id i:Nat) (hi:(i == id)=false):blockK id Q (.exit i) fr h=Q (.exit i) fr h:=by simp[blockK,hi]
theorem d_skip:Do (wpC P fn nt rd .skip fr h) Q u=Q .normal fr h:=rfl
theorem d_region (id:Nat) (ops:Array Oper):Do (wpC P fn nt rd (.region id ops false) fr h) Q u=Do (wpOps P nt ops.toList ops.toList fr h) (Q .normal) nx:=rfl
theorem d_calm (id:Nat) (ops:Array Oper) (hc:calmRegion ops.toList=true):Do (wpC P fn nt rd (.region id ops true) fr h) Q u=Do (wpOps P nt ops.toList ops.toList fr h) (Q .normal) nx:=by
 show((calmRegion ops.toList=true→wpOps P nt ops.toList ops.toList fr h (Q .normal))∧(calmRegion ops.toList=false→wpDrawn P nt ops.toList fr h (Q .normal)))=_
 simp only[hc,true_implies,reduceCtorEq,false_implies,and_true]
 rfl
theorem d_seq (a b:Code):Do (wpC P fn nt rd (.seq a b) fr h) Q u=Do (wpC P fn nt rd a fr h) (seqK (fun fr h=>Do (wpC P fn nt rd b fr h) Q nx) Q) nx:=by
 show wpC P fn nt rd a fr h _=wpC P fn nt rd a fr h _
 congr 1
theorem d_cond (c:Operand) (a b:Code):Do (wpC P fn nt rd (.cond c a b) fr h) Q u=Do (Ex (opd fr c)) (fun c=>match c with
  | .bool c=>Bq c (Do (wpC P fn nt rd a fr h) Q nx,Do (wpC P fn nt rd b fr h) Q nx) nx
  | _=>False) nx:=rfl
theorem d_block (id:Nat) (b:Code):Do (wpC P fn nt rd (.block id b) fr h) Q u=Do (wpC P fn nt rd b fr h) (blockK id Q) nx:=rfl
theorem d_loop (b:Code):Do (wpC P fn nt rd (.loop b) fr h) Q u=Do (WLoop P fn nt rd b fr h) Q nx:=rfl
theorem d_scope (b:Code):Do (wpC P fn nt rd (.scope b) fr h) Q u=Do (wpC P fn nt rd b fr h) Q nx:=rfl
theorem d_rangeFunc (f:Operand) (ps:Array Tmp) (a b:Code):Do (wpC P fn nt rd (.rangeFunc f ps a b) fr h) Q u=Do (WRange P fn nt rd f ps a b fr h) Q nx:=rfl
theorem d_exit (i:Nat):Do (wpC P fn nt rd (.exit i) fr h) Q u=Q (.exit i) fr h:=rfl
theorem d_ret:Do (wpC P fn nt rd .ret fr h) Q u=Q .ret fr h:=rfl
end
def retK (P:Program) (rs:List ResultVar) (K:Value→IH→Prop) (e:IExit) (fr:Fr) (h:IH):Prop:=match e with
 | .exit _=>False
 | .normal=>Do (Ex (resultsOf P fr h rs)) (fun l=>K (single l) h) nx
 | .ret=>Do (Ex (resultsOf P fr h rs)) (fun l=>K (single l) h) nx
theorem retK_normal (P:Program) (rs:List ResultVar) (K:Value→IH→Prop) (fr:Fr) (h:IH):retK P rs K .normal fr h=Do (Ex (resultsOf P fr h rs)) (fun l=>K (single l) h) nx:=rfl
theorem retK_ret (P:Program) (rs:List ResultVar) (K:Value→IH→Prop) (fr:Fr) (h:IH):retK P rs K .ret fr h=Do (Ex (resultsOf P fr h rs)) (fun l=>K (single l) h) nx:=rfl
theorem enter {P:Program} {f:FuncId} {fn:Func} {c:Code} {nt:Nat} {rs:List ResultVar} {first cap:Array Value} {vs:List Value} {h:IH} {K:Value→IH→Prop}
  (hf:P.funcs[f]?=some fn) (hb:fn.body=some c) (hn:fn.ntmps=nt) (hr:fn.results.toList=rs) (hl:(first.toList ++ (vs ++ cap.toList)).length≤nt)
  (w:Do (wpC P f nt none c (enterFr 0 (first.toList ++ (vs ++ cap.toList))) h) (retK P rs K) nx):WV P (.func (.func f) first cap) vs h K :=
 wv_enter hf hb hn hr hl w
theorem call {P:Program} {fv:Value} {vs:List Value} {h:IH} {K L:Value→IH→Prop} (w:WV P fv vs h L) (k : ∀v h',L v h'→K v h'):Do (WV P fv vs h) K nx:=w.mono k
@[reducible] def Pst (p:Prop) (_:Nx p):Prop:=p
theorem cut {P:Program} {fn:FuncId} {nt:Nat} {rd:Option Nat} {a:Code} {fr:Fr} {h:IH} {K:Fr→IH→Prop} {Q:IExit→Fr→IH→Prop} (R:Fr→IH→Prop)
  (w:Do (wpC P fn nt rd a fr h) (seqK (fun fr h=>Pst (R fr h) nx) Q) nx) (k : ∀fr h,R fr h→K fr h):Do (wpC P fn nt rd a fr h) (seqK K Q) nx :=
 wpC_mono (fun e fr h w=>by cases e<;>first|exact k _ _ w|exact w) w
def loopK (I:Nat→Fr→IH→Prop) (m:Nat) (Q:IExit→Fr→IH→Prop) (e:IExit) (fr:Fr) (h:IH):Prop:=match e with
 | .normal => ∃m',m'<m∧I m' fr h
 | .exit i=>Q (.exit i) fr h
 | .ret=>Q .ret fr h
theorem loopK_exit (I:Nat→Fr→IH→Prop) (m:Nat) (Q:IExit→Fr→IH→Prop) (i:Nat) (fr:Fr) (h:IH):loopK I m Q (.exit i) fr h=Q (.exit i) fr h:=rfl
theorem loopK_ret (I:Nat→Fr→IH→Prop) (m:Nat) (Q:IExit→Fr→IH→Prop) (fr:Fr) (h:IH):loopK I m Q .ret fr h=Q .ret fr h:=rfl
theorem loop {P:Program} {fn:FuncId} {nt:Nat} {rd:Option Nat} {b:Code} {Q:IExit→Fr→IH→Prop} (I:Nat→Fr→IH→Prop) {fr:Fr} {h:IH} (m:Nat) (start:I m fr h)
  (step : ∀m fr h,I m fr h→Do (wpC P fn nt rd b fr h) (loopK I m Q) nx) (hm:headOf b=none:=by rfl):Do (WLoop P fn nt rd b fr h) Q nx :=
 wloop I (fun m fr h hi=>step m fr h hi) start hm
theorem d_last (tr:List (Fr×IH)) (n:Nat) (K:Fr→IH→Prop) (u:Nx K):Do (wpLast tr n) K u=Do (Ex tr[n]?) (fun p=>K p.1 p.2) nx:=rfl
theorem wpSteady_one {P:Program} {ops:List Oper} {tr:List (Fr×IH)} {i p:Nat} {o:Oper} {fr fr':Fr} {h h':IH} (ho:ops[i]?=some o) (hi:tr[i]?=some (fr,h)) (hw:wantedI ops o fr=some true) (hp:tr[p]?=some (fr',h')) (hs:steadyAt P fr o.op h h'=true):wpSteady P ops tr [(i,[p])]:=by
 refine⟨?_,trivial⟩
 simp only[ho,hi,hw]
 intro q hq
 simp only[List.mem_singleton] at hq
 subst hq
 simp only[hp]
 exact hs
theorem wpSteady_not {P:Program} {ops:List Oper} {tr:List (Fr×IH)} {i:Nat} {l:List Nat} {o:Oper} {fr:Fr} {h:IH} (ho:ops[i]?=some o) (hi:tr[i]?=some (fr,h)) (hw:wantedI ops o fr=some false):wpSteady P ops tr [(i,l)]:=by
 refine⟨?_,trivial⟩
 simp only[ho,hi,hw]
theorem wpSteady_cons {P:Program} {ops:List Oper} {tr:List (Fr×IH)} {e:Nat×List Nat} {l:List (Nat×List Nat)} (h1:wpSteady P ops tr [e]) (h2:wpSteady P ops tr l):wpSteady P ops tr (e :: l):=⟨h1.1,h2⟩
theorem wpSteady_two {P:Program} {ops:List Oper} {tr:List (Fr×IH)} {i p:Nat} {l:List Nat} (h1:wpSteady P ops tr [(i,[p])]) (h2:wpSteady P ops tr [(i,l)]):wpSteady P ops tr [(i,p :: l)]:=by
 refine⟨?_,trivial⟩
 have a:=h1.1
 have b:=h2.1
 simp only at a b ⊢
 cases ho:ops[i]? with
 | none=>simp only[ho] at a
 | some o =>
  cases hi:tr[i]? with
  | none=>simp only[ho,hi] at a
  | some x =>
   obtain⟨fr,h⟩:=x
   simp only[ho,hi] at a b ⊢
   cases hw:wantedI ops o fr with
   | none=>trivial
   | some w =>
    cases w with
    | false=>trivial
    | true =>
     simp only[hw] at a b ⊢
     intro q hq
     rcases List.mem_cons.1 hq with rfl|hq
     ·exact a q (by simp)
     ·exact b q hq
theorem drawn {P:Program} {fn:FuncId} {nt:Nat} {rd:Option Nat} {id:Nat} {ops:Array Oper} {fr:Fr} {h:IH} {Q:IExit→Fr→IH→Prop} (pl:List (Nat×List Nat)) (ho:orderOK ops.toList=true) (hp:plan2 ops.toList=pl) (hne:pl.isEmpty=false)
  (w:Do (wpTrace P nt ops.toList ops.toList fr h []) (fun tr=>Pst (wpSteady P ops.toList tr pl∧Do (wpLast tr ops.toList.length) (Q .normal) nx) nx) nx):Do (wpC P fn nt rd (.region id ops true) fr h) Q nx:=by
 subst hp
 refine⟨fun hc=>?_,fun _=>⟨ho,w⟩⟩
 simp[calmRegion,List.isEmpty_iff] at hc hne
 exact absurd hc.2 hne
theorem d_label (P:Program) (fn:FuncId) (nt:Nat) (rd:Option Nat) (l:Nat) (fr:Fr) (h:IH) (Q:IExit→Fr→IH→Prop) (u:Nx Q):Do (wpC P fn nt rd (.label l) fr h) Q u=Q .normal fr h:=rfl
theorem single_one (v:Value):single [v]=v:=rfl
theorem single_nil:single []=.tuple #[]:=rfl
theorem single_two (a b:Value):single [a,b]=.tuple #[a,b]:=rfl
theorem single_three (a b c:Value):single [a,b,c]=.tuple #[a,b,c]:=rfl
theorem ld_def (h:IH) (b o:Nat):ld h b o=(h.row b).bind (·[o]?):=rfl
theorem nil_app0 {α:Type} (l:List α) : [] ++ l=l:=rfl
theorem app_nil0 {α:Type} (l:List α):l ++ []=l:=List.append_nil l
theorem cons_app0 {α:Type} (x:α) (l m:List α):(x :: l) ++ m=x :: (l ++ m):=rfl
theorem if_true0 {α:Type} {d:Decidable True} (a b:α):ite True a b=a:=if_pos trivial
theorem if_false0 {α:Type} {d:Decidable False} (a b:α):ite False a b=b:=if_neg id
theorem bind_some0 {α β:Type} (a:α) (f:α→Option β):(some a).bind f=f a:=rfl
theorem map_some0 {α β:Type} (a:α) (f:α→β):(some a).map f=some (f a):=rfl
theorem get_zero0 {α:Type} (x:α) (l:List α):(x :: l)[0]?=some x:=rfl
theorem get_succ0 {α:Type} (x:α) (l:List α) (n:Nat):(x :: l)[n+1]?=l[n]?:=rfl
theorem get_arr0 {α:Type} (l:List α) (n:Nat):l.toArray[n]?=l[n]?:=List.getElem?_toArray
theorem toList0 {α:Type} (l:List α):l.toArray.toList=l:=rfl
theorem undef_eq:undef=Value.tuple #[]:=rfl
def wpS:=And.intro @d_move (And.intro @d_assign (And.intro @d_alloc (And.intro @d_box (And.intro @d_load (And.intro @d_store (And.intro @d_binOp (And.intro @d_pick (
 And.intro @d_extract (And.intro @d_makeFunc (And.intro @d_call (And.intro @d_builtin (And.intro @d_fieldAddr (And.intro @d_indexAddr (And.intro @d_unOp (And.intro @d_convert (
 And.intro @d_makeSlice (And.intro @d_buildSlice (And.intro @d_slice (And.intro @d_build (And.intro @d_field (And.intro (And.intro @d_nilCheck (And.intro @nilC_ptr (And.intro @nilC_func (And.intro @nilC_map @d_label)))) (And.intro @d_lookup (And.intro (And.intro @d_mapUpdate @d_insert) (
 And.intro @d_makeMap (And.intro @d_index (And.intro @d_put (And.intro @d_put_none (And.intro @d_nil (And.intro @d_cons (And.intro @d_guard (And.intro @d_tnil (
 And.intro @d_tcons (And.intro @d_tguard (And.intro @seqK_normal (And.intro @seqK_exit (And.intro @seqK_ret (And.intro @blockK_normal (And.intro @blockK_ret (And.intro @blockK_same (
 And.intro @blockK_exit (And.intro @d_skip (And.intro @d_region (And.intro @d_calm (And.intro @d_seq (And.intro @d_cond (And.intro @d_block (And.intro @d_loop (
 And.intro @d_scope (And.intro @d_rangeFunc (And.intro @d_exit (And.intro @d_ret (And.intro @retK_normal (And.intro @retK_ret (And.intro @loopK_exit (And.intro @loopK_ret (
 And.intro @do_ex (And.intro @do_ex_map (And.intro @do_ex_bind (And.intro @do_ex_if (And.intro @bq_true (And.intro @bq_false (And.intro @opd_tmp (And.intro @opd_func (
 And.intro @opd_global (And.intro @opd_const_int (And.intro @opd_const_bool (And.intro @opd_const_string (And.intro @opd_const_nilFunc (And.intro @opd_const_nilSlice (And.intro @opd_const_nilPtr (And.intro @opd_const_nilMap (
 And.intro @opds_nil (And.intro @opds_cons (And.intro @partsOf_nil (And.intro @partsOf_cons (And.intro @optOpd_none (And.intro @optOpd_some (And.intro @fget_cons (And.intro @enterFr_cons (
 And.intro @enterFr_nil (And.intro @nil_app0 (And.intro @app_nil0 (And.intro @cons_app0 (And.intro @if_true0 (And.intro @if_false0 (And.intro @bind_some0 (And.intro @map_some0 (
 And.intro @and_true (And.intro @true_and (And.intro @Nat.zero_add (And.intro @Nat.add_zero (And.intro @Nat.zero_mul (And.intro @Nat.one_mul (And.intro @Nat.mul_one (And.intro @resultsOf_cons (
 And.intro @resultsOf_nil (And.intro @resultOf_tmp (And.intro @resultOf_cell (And.intro @binop_add (And.intro @binop_sub (And.intro @binop_mul (And.intro @binop_eql (And.intro @binop_neq (
 And.intro @binop_lss (And.intro @binop_leq (And.intro @binop_gtr (And.intro @binop_geq (And.intro @band_u (And.intro @bor_u (And.intro @bxor_u (And.intro @bclr_u (
 And.intro @band_i (And.intro @bor_i (And.intro @band_neg (And.intro @shr_u (And.intro @shr_i (And.intro @shl1_u (And.intro @shl1_i (And.intro @quo_i (
 And.intro @quo_u (And.intro @rem_nn (And.intro @unary_not (And.intro @unary_neg (And.intro @wrap_i64 (And.intro @wrap_u64 (And.intro @wrap_u8 (And.intro @wrap_u16 (
 And.intro @wrap_u32 (And.intro @Int.toNat_natCast (And.intro @Int.toNat_one (And.intro @Int.toNat_zero (And.intro @builtin_len (And.intro @indexAddr_slice (And.intro @indexAddr_arr (And.intro @idxAt_nat (
 And.intro @fieldV_agg (And.intro @ld_def (And.intro @rd_eq (And.intro @asAddr_ptr (And.intro @get_zero0 (And.intro @get_succ0 (And.intro @get_arr0 (And.intro @toList0 (
 And.intro @cells_int (And.intro @cells_bool (And.intro @cells_slice (And.intro @cells_ptr (And.intro @cells_agg (And.intro @cells_func (And.intro @cells_nilFunc (And.intro @cells_map (
 And.intro @cells_nilPtr (And.intro @new_n (And.intro @new_base (And.intro @put_n (And.intro @put_base (And.intro @row_new_same (And.intro @row_new_old (And.intro @row_put_same (
 And.intro @row_put_old (And.intro @get_new_same (And.intro @get_new_old (And.intro @get_put_same (And.intro @get_put_old (And.intro @single_one (And.intro @single_two (And.intro @single_nil (
 And.intro @single_three (And.intro @d_last (@undef_eq))))))))))))))))))))))))))))))))))))))))))))))))))))))))))))))))))))))))))))))))))))))))))))))))))))))))))))))))))))))))))))))))))))))))))))))))))))))))))))))))))))))))))
def wpR:=And.intro @d_move (And.intro @d_assign (And.intro @d_alloc (And.intro @d_box (And.intro @d_load (And.intro @d_store (And.intro @d_binOp (And.intro @d_pick (
 And.intro @d_extract (And.intro @d_makeFunc (And.intro @d_call (And.intro @d_builtin (And.intro @d_fieldAddr (And.intro @d_indexAddr (And.intro @d_unOp (And.intro @d_convert (
 And.intro @d_makeSlice (And.intro @d_buildSlice (And.intro @d_slice (And.intro @d_build (And.intro @d_field (And.intro (And.intro @d_nilCheck (And.intro @nilC_ptr (And.intro @nilC_func (And.intro @nilC_map @d_label)))) (And.intro @d_lookup (And.intro (And.intro @d_mapUpdate @d_insert) (
 And.intro @d_makeMap (And.intro @d_index (And.intro @d_put (And.intro @d_put_none (And.intro @d_nil (And.intro @d_cons (And.intro @d_guard (And.intro @d_tnil (
 And.intro @d_tcons (And.intro @d_tguard (And.intro @seqK_normal (And.intro @seqK_exit (And.intro @seqK_ret (And.intro @blockK_normal (And.intro @blockK_ret (And.intro @blockK_same (
 And.intro @blockK_exit (And.intro @d_skip (And.intro @d_region (And.intro @d_calm (And.intro @d_cond (And.intro @d_block (And.intro @d_loop (And.intro @d_scope (
 And.intro @d_rangeFunc (And.intro @d_exit (And.intro @d_ret (And.intro @retK_normal (And.intro @retK_ret (And.intro @loopK_exit (And.intro @loopK_ret (And.intro @do_ex (
 And.intro @do_ex_map (And.intro @do_ex_bind (And.intro @do_ex_if (And.intro @bq_true (And.intro @bq_false (And.intro @opd_tmp (And.intro @opd_func (And.intro @opd_global (
 And.intro @opd_const_int (And.intro @opd_const_bool (And.intro @opd_const_string (And.intro @opd_const_nilFunc (And.intro @opd_const_nilSlice (And.intro @opd_const_nilPtr (And.intro @opd_const_nilMap (And.intro @opds_nil (
 And.intro @opds_cons (And.intro @partsOf_nil (And.intro @partsOf_cons (And.intro @optOpd_none (And.intro @optOpd_some (And.intro @fget_cons (And.intro @enterFr_cons (And.intro @enterFr_nil (
 And.intro @nil_app0 (And.intro @app_nil0 (And.intro @cons_app0 (And.intro @if_true0 (And.intro @if_false0 (And.intro @bind_some0 (And.intro @map_some0 (And.intro @and_true (
 And.intro @true_and (And.intro @Nat.zero_add (And.intro @Nat.add_zero (And.intro @Nat.zero_mul (And.intro @Nat.one_mul (And.intro @Nat.mul_one (And.intro @resultsOf_cons (And.intro @resultsOf_nil (
 And.intro @resultOf_tmp (And.intro @resultOf_cell (And.intro @binop_add (And.intro @binop_sub (And.intro @binop_mul (And.intro @binop_eql (And.intro @binop_neq (And.intro @binop_lss (
 And.intro @binop_leq (And.intro @binop_gtr (And.intro @binop_geq (And.intro @band_u (And.intro @bor_u (And.intro @bxor_u (And.intro @bclr_u (And.intro @band_i (
 And.intro @bor_i (And.intro @band_neg (And.intro @shr_u (And.intro @shr_i (And.intro @shl1_u (And.intro @shl1_i (And.intro @quo_i (And.intro @quo_u (
 And.intro @rem_nn (And.intro @unary_not (And.intro @unary_neg (And.intro @wrap_i64 (And.intro @wrap_u64 (And.intro @wrap_u8 (And.intro @wrap_u16 (And.intro @wrap_u32 (
 And.intro @Int.toNat_natCast (And.intro @Int.toNat_one (And.intro @Int.toNat_zero (And.intro @builtin_len (And.intro @indexAddr_slice (And.intro @indexAddr_arr (And.intro @idxAt_nat (And.intro @fieldV_agg (
 And.intro @ld_def (And.intro @rd_eq (And.intro @asAddr_ptr (And.intro @get_zero0 (And.intro @get_succ0 (And.intro @get_arr0 (And.intro @toList0 (And.intro @cells_int (
 And.intro @cells_bool (And.intro @cells_slice (And.intro @cells_ptr (And.intro @cells_agg (And.intro @cells_func (And.intro @cells_nilFunc (And.intro @cells_map (And.intro @cells_nilPtr (
 And.intro @new_n (And.intro @new_base (And.intro @put_n (And.intro @put_base (And.intro @row_new_same (And.intro @row_new_old (And.intro @row_put_same (And.intro @row_put_old (
 And.intro @get_new_same (And.intro @get_new_old (And.intro @get_put_same (And.intro @get_put_old (And.intro @single_one (And.intro @single_two (And.intro @single_nil (And.intro @single_three (
 And.intro @d_last (@undef_eq)))))))))))))))))))))))))))))))))))))))))))))))))))))))))))))))))))))))))))))))))))))))))))))))))))))))))))))))))))))))))))))))))))))))))))))))))))))))))))))))))))))))))
end Go.Id
