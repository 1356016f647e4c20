/-
  The random numbers of package chance: plain numbers. Contracts: package chance and reference 4: the next number.
-/
import Derived.Test.YtjhnilfelokpcaaGreatOutlierWaysAw
import Derived.Test.YtjhnilfelokpcaaGreatOutlierWaysAt
import Derived.Test.YtjhnilfelokpcaaGreatOutlierWaysAu
import Derived.Test.YtjhnilfelokpcaaGreatOutlierWaysBg
import Derived.Test.YtjhnilfelokpcaaGreatOutlierWaysBh
import Derived.Test.YtjhnilfelokpcaaGreatOutlierWaysAv
import Derived.Test.YtjhnilfelokpcaaGreatOutlierWaysBp
import Derived.Test.YtjhnilfelokpcaaGreatOutlierWaysAy
set_option linter.unusedVariables false
set_option linter.unusedSimpArgs false
set_option linter.defProp false
set_option linter.deprecated false
namespace Go.Id
def nxS (s : Nat) : Nat := (s + 11400714819323198485) % 18446744073709551616
def mixA (z : Nat) : Nat := (z ^^^ z / 1073741824) * 13787848793156543929 % 18446744073709551616
def mixB (z : Nat) : Nat := (z ^^^ z / 134217728) * 10723151780598845931 % 18446744073709551616
def mixC (z : Nat) : Nat := z ^^^ z / 2147483648
def nxO (s : Nat) : Nat := mixC (mixB (mixA (nxS s)))
theorem nxS_lt (s : Nat) : nxS s < 18446744073709551616 := Nat.mod_lt _ (by omega)
theorem mixA_lt (s : Nat) : mixA s < 18446744073709551616 := Nat.mod_lt _ (by omega)
theorem mixB_lt (s : Nat) : mixB s < 18446744073709551616 := Nat.mod_lt _ (by omega)
theorem mixC_lt {s : Nat} (h : s < 18446744073709551616) : mixC s < 18446744073709551616 :=
  Nat.xor_lt_two_pow (n := 64) h (Nat.lt_of_le_of_lt (Nat.div_le_self _ _) h)
theorem nxO_lt (s : Nat) : nxO s < 18446744073709551616 := mixC_lt (mixB_lt _)
def limN (n : Nat) : Nat := 18446744073709551616 / n * n
theorem lim_rest {n : Nat} (h0 : 0 < n) (hn : n < 18446744073709551616) : (18446744073709551616 - n) % n = 18446744073709551616 - limN n ∧ limN n ≤ 18446744073709551616 ∧ n ≤ limN n := by
  unfold limN
  have h1 := Nat.div_add_mod 18446744073709551616 n
  have h2 : 18446744073709551616 % n = (18446744073709551616 - n) % n := by
    rw [Nat.mod_eq_sub_mod (Nat.le_of_lt hn)]
  have h3 : 1 ≤ 18446744073709551616 / n := (Nat.one_le_div_iff h0).2 (Nat.le_of_lt hn)
  have h4 : 1 * n ≤ 18446744073709551616 / n * n := Nat.mul_le_mul_right _ h3
  rw [Nat.mul_comm] at h1
  generalize 18446744073709551616 / n * n = m at *
  omega
theorem TR_ex : ∃ T : Nat, T = 200 := ⟨200, rfl⟩
noncomputable def TR : Nat := Classical.choose TR_ex
theorem TR_eq : TR = 200 := Classical.choose_spec TR_ex
def belowT (n : Nat) : Nat → Nat → Option (Nat × Nat)
  | 0, _ => none
  | k + 1, s => if nxO s < limN n then some (nxO s % n, nxS s) else belowT n k (nxS s)
theorem belowT_lt {n k s x t : Nat} (h0 : 0 < n) (h : belowT n k s = some (x, t)) : x < n ∧ t < 18446744073709551616 := by
  induction k generalizing s with
  | zero => cases h
  | succ k ih =>
    rw [belowT] at h
    split at h
    · cases h; exact ⟨Nat.mod_lt _ h0, nxS_lt _⟩
    · exact ih h
def drawW : Nat → Nat → Nat × Nat
  | 0, s => (0, s)
  | m + 1, s => ((drawW m s).1 + nxO (drawW m s).2 * 18446744073709551616 ^ m, nxS (drawW m s).2)
theorem drawW_lt (m s : Nat) : (drawW m s).1 < 18446744073709551616 ^ m := by
  induction m with
  | zero => exact Nat.one_pos
  | succ m ih =>
    have h1 := nxO_lt (drawW m s).2
    have h2 : (nxO (drawW m s).2 + 1) * 18446744073709551616 ^ m ≤ 18446744073709551616 * 18446744073709551616 ^ m := Nat.mul_le_mul_right _ h1
    rw [drawW, Nat.pow_succ, Nat.mul_comm (18446744073709551616 ^ m)]
    rw [Nat.add_mul, Nat.one_mul] at h2
    generalize 18446744073709551616 ^ m = p at *
    show (drawW m s).1 + nxO (drawW m s).2 * p < _
    omega
theorem drawW_st {m s : Nat} (h : s < 18446744073709551616) : (drawW m s).2 < 18446744073709551616 := by
  cases m with
  | zero => exact h
  | succ m => exact nxS_lt _
def bitL (n : Nat) : Nat := if n = 0 then 0 else Nat.log2 n + 1
theorem bitL_iff (n N : Nat) : N < bitL n ↔ 2 ^ N ≤ n := by
  unfold bitL
  by_cases h : n = 0
  · subst h
    have := Nat.two_pow_pos N
    rw [if_pos rfl]; omega
  · rw [if_neg h, Nat.lt_succ_iff, Nat.le_log2 h]
theorem bitL_eq {n k : Nat} (h : ∀ N, N < k ↔ 2 ^ N ≤ n) : k = bitL n := by
  have h1 : ∀ N, N < k ↔ N < bitL n := fun N => (h N).trans (bitL_iff n N).symm
  have a := h1 k
  have b := h1 (bitL n)
  omega
def wideT (n k : Nat) : Nat → Nat → Option (Nat × Nat)
  | 0, _ => none
  | t + 1, s => if (drawW ((k + 63) / 64) s).1 % 2 ^ k < n then some ((drawW ((k + 63) / 64) s).1 % 2 ^ k, (drawW ((k + 63) / 64) s).2) else wideT n k t (drawW ((k + 63) / 64) s).2
theorem wideT_lt {n k t s x u : Nat} (hs : s < 18446744073709551616) (h : wideT n k t s = some (x, u)) : x < n ∧ u < 18446744073709551616 := by
  induction t generalizing s with
  | zero => cases h
  | succ t ih =>
    rw [wideT] at h
    split at h
    · rename_i hx; cases h; exact ⟨hx, drawW_st hs⟩
    · exact ih (drawW_st hs) h
noncomputable def drawN (n s : Nat) : Option (Nat × Nat) := if bitL (n - 1) = 0 then some (0, s) else wideT n (bitL (n - 1)) TR s
theorem drawN_lt {n s x u : Nat} (h0 : 0 < n) (hs : s < 18446744073709551616) (h : drawN n s = some (x, u)) : x < n ∧ u < 18446744073709551616 := by
  unfold drawN at h
  split at h
  · cases h; exact ⟨h0, hs⟩
  · exact wideT_lt hs h
def sumN (l : List Nat) : Nat → Nat
  | 0 => 0
  | i + 1 => sumN l i + l.getD i 0
theorem sumN_mono (l : List Nat) {i j : Nat} (h : i ≤ j) : sumN l i ≤ sumN l j := by
  induction j with
  | zero => obtain rfl : i = 0 := by omega
            exact Nat.le_refl _
  | succ j ih =>
    by_cases c : i = j + 1
    · subst c; exact Nat.le_refl _
    · have := ih (by omega)
      rw [sumN]; omega
def pickI (l : List Nat) (x : Nat) : Nat → Nat → Nat
  | 0, k => k
  | f + 1, k => if sumN l (k + 1) ≤ x then pickI l x f (k + 1) else k
theorem pickI_at {l : List Nat} {x f k : Nat} (h : x < sumN l (k + f)) (h0 : k ≤ 0 ∨ sumN l k ≤ x) : k ≤ pickI l x f k ∧ pickI l x f k < k + f ∧ sumN l (pickI l x f k) ≤ x ∧ x < sumN l (pickI l x f k + 1) := by
  have z : sumN l k ≤ x := by
    rcases h0 with h0 | h0
    · obtain rfl : k = 0 := by omega
      exact Nat.zero_le _
    · exact h0
  induction f generalizing k with
  | zero => rw [Nat.add_zero] at h; omega
  | succ f ih =>
    rw [pickI]
    split
    · rename_i hle
      have := ih (k := k + 1) (by rw [show k + 1 + f = k + (f + 1) by omega]; exact h) (.inr hle) hle
      omega
    · rename_i hn
      omega
theorem pickI_pos {l : List Nat} {x : Nat} (h : x < sumN l l.length) : pickI l x l.length 0 < l.length ∧ 0 < l.getD (pickI l x l.length 0) 0 := by
  obtain ⟨_, h1, h2, h3⟩ := pickI_at (l := l) (x := x) (f := l.length) (k := 0) (by rw [Nat.zero_add]; exact h) (.inl (Nat.le_refl _))
  rw [sumN] at h3
  omega
end Go.Id

namespace Go.Id
open Go
open Go.Proofs.Tryz (prog)
open Nat (reduceAdd reduceEqDiff reduceLeDiff)
set_option maxHeartbeats 16000000
theorem binop_xor_u64 (P:Program) (t:TypeId) (ox oy:Operand) (a b:Nat) (ha:a<18446744073709551616) (hb:b<18446744073709551616):binop P .xor t ox oy (.int .u64 a) (.int .u64 b)=some (.int .u64 ((a ^^^ b:Nat):Int)):=by
 have e:(BitVec.ofInt 64 (a:Int) ^^^ BitVec.ofInt 64 (b:Int)).toNat=a ^^^ b:=by simp[Nat.mod_eq_of_lt ha,Nat.mod_eq_of_lt hb]
 rw[binop_xor_raw,show(BitVec.ofInt IntKind.u64.bits (a:Int) ^^^ BitVec.ofInt IntKind.u64.bits (b:Int)).toNat=a ^^^ b from e,wrap_nat_u64 (Nat.xor_lt_two_pow (n:=64) ha hb)]
theorem shr_nat (P:Program) (t:TypeId) (ox oy:Operand) {z:Nat} (hz:z<18446744073709551616) (n:Nat) (hn:n≤64):binop P .shr t ox oy (.int .u64 (z:Int)) (.int .u64 (n:Int))=some (.int .u64 ((z / 2 ^ n:Nat):Int)):=by
 rw[shr_u P t ox oy (by omega) (by omega),Int.toNat_natCast,Int.toNat_natCast,nshr,Nat.shiftRight_eq_div_pow]
theorem xor_div {P:Program} {t:TypeId} {z:Nat} (hz:z<18446744073709551616) (c:Nat) (ox oy:Operand):binop P .xor t ox oy (.int .u64 (z:Int)) (.int .u64 ((z / c:Nat):Int))=some (.int .u64 ((z ^^^ z / c:Nat):Int)) :=
 binop_xor_u64 P t ox oy z (z / c) hz (Nat.lt_of_le_of_lt (Nat.div_le_self _ _) hz)
theorem wrap_mulA (z:Nat):IntKind.u64.wrap (((z ^^^ z / 1073741824:Nat):Int)*13787848793156543929)=((mixA z:Nat):Int):=by
 unfold mixA
 show(((z ^^^ z / 1073741824:Nat):Int)*13787848793156543929) % 18446744073709551616=_
 omega
theorem wrap_mulB (z:Nat):IntKind.u64.wrap (((z ^^^ z / 134217728:Nat):Int)*10723151780598845931)=((mixB z:Nat):Int):=by
 unfold mixB
 show(((z ^^^ z / 134217728:Nat):Int)*10723151780598845931) % 18446744073709551616=_
 omega
theorem wrap_nx (s:Nat):IntKind.u64.wrap ((s:Int)+11400714819323198485)=((nxS s:Nat):Int):=by
 unfold nxS
 show((s:Int)+11400714819323198485) % 18446744073709551616=_
 omega
theorem next_ok {h:IH} {k s:Nat} (g:h.ext.get k=some (.cells [K64 s] 0 none)) :
  WV prog (.func (.func 224) #[ptr (2*k) 0] #[]) [] h fun r h'=>h'=h.put k (.cells [K64 (nxS s)] 0 none)∧r=K64 (nxO s):=by
 refine enter (nt:=32) (rs:=[.tmp 2]) Proofs.Tryz.func224 rfl rfl rfl (by simp) ?_
 have g1:(h.put k (.cells [K64 (nxS s)] 0 none)).ext.get k=some (.cells [K64 (nxS s)] 0 none):=by simp (disch:=try exact dx) only[get_put_same]
 have b1:=nxS_lt s
 have s1 : ∀ox oy,binop prog .shr 42 ox oy (K64 (nxS s)) (.int .u64 30)=some (K64 (nxS s / 1073741824)):=fun ox oy=>shr_nat _ _ ox oy b1 30 (by decide)
 have x1:=xor_div (P:=prog) (t:=42) b1 1073741824
 simp -dsimp (maxSteps:=1000000) (disch:=try exact dx) only[wpS,wpT,reduceEqDiff,reduceLeDiff,fa231_0,fa63_0,ld42,st42,row_of g,row_of g1,wrap_nx,g,s1,x1,wrap_mulA]
 rw[show nxO s=mixC (mixB (mixA (nxS s))) from rfl]
 generalize nxS s=z
 have b2:=mixA_lt z
 have s2 : ∀ox oy,binop prog .shr 42 ox oy (K64 (mixA z)) (.int .u64 27)=some (K64 (mixA z / 134217728)):=fun ox oy=>shr_nat _ _ ox oy b2 27 (by decide)
 have x2:=xor_div (P:=prog) (t:=42) b2 134217728
 simp -dsimp (maxSteps:=1000000) (disch:=try exact dx) only[wpS,reduceEqDiff,s2,x2,wrap_mulB]
 have b3:=mixB_lt (mixA z)
 have s3 : ∀ox oy,binop prog .shr 42 ox oy (K64 (mixB (mixA z))) (.int .u64 31)=some (K64 (mixB (mixA z) / 2147483648)):=fun ox oy=>shr_nat _ _ ox oy b3 31 (by decide)
 have x3:=xor_div (P:=prog) (t:=42) b3 2147483648
 simp -dsimp (maxSteps:=1000000) (disch:=try exact dx) only[wpS,wpT,reduceEqDiff,s3,x3]
 rfl
def chV (s:Nat):Value:=.agg #[K64 s]
theorem tk1 (a:Value):List.take 1 (List.drop 0 [a]) = [a]:=rfl
theorem chfrom_ok {h:IH} {s:Nat}:WV prog (.func (.func 174) #[] #[]) [chV s] h fun r h'=>h'=(h.new (.cells [K64 s] 0 none)).new (.cells [K64 s] 0 none)∧r=ptr (2*(h.n+1)) 0:=by
 have g1:(h.new (.cells [K64 s] 0 none)).ext.get h.n=some (.cells [K64 s] 0 none):=by simp (disch:=try exact dx) only[get_new_same]
 refine enter (nt:=7) (rs:=[.tmp 2]) Proofs.Tryz.func174 rfl rfl rfl (by simp) ?_
 simp -dsimp (maxSteps:=1000000) (disch:=try exact dx) only[wpS,wpT,reduceEqDiff,reduceLeDiff,ld63,bv231,pl231_0,bv233,pl233_0,chV,row_of g1,tk1]
theorem cand64_ok {h:IH} {F:Value} (cF:F.cells = #[F]) (cO:cellOK F=true):WV prog (.func (.func 225) #[] #[]) [F] h fun r h'=>h'=h.new (.cells [F] 0 none)∧r=.func (.func 253) #[] #[ptr (2*h.n) 0]:=by
 refine enter (nt:=4) (rs:=[.tmp 2]) Proofs.Tryz.func225 rfl rfl rfl (by simp) ?_
 simp -dsimp (maxSteps:=1000000) (disch:=try exact dx) only[wpS,wpT,reduceEqDiff,cF]
set_option maxRecDepth 100000 in
theorem cand64r_ok {h:IH} {b:Nat} {F y:Value} (J:Nat→IH→Prop) (Fin:IH→Prop) (j0:J 0 h) (jb : ∀i hh,J i hh→hh.ext.get b=some (.cells [F] 0 none))
  (st : ∀i hh,i<TR→J i hh→WV prog F [] hh fun x h1=>WV prog y [x] h1 fun r h2=>(r=.bool true∧J (i+1) h2)∨(r=.bool false∧Fin h2)) :
  WV prog (.func (.func 253) #[] #[ptr (2*b) 0]) [y] h fun _ h'=>J TR h'∨Fin h':=by
 refine enter (nt:=11) (rs:=[]) Proofs.Tryz.func253 rfl rfl rfl (by simp) ?_
 simp -dsimp (maxSteps:=1000000) (disch:=try exact dx) only[wpS,reduceAdd]
 have hT:=TR_eq
 refine loop (fun m fr hh => ∃i:Nat,i+m=TR∧J i hh∧fget fr 0=some y∧fget fr 1=some (ptr (2*b) 0)∧fget fr 3=some (KN i)) TR
  ⟨0,by omega,j0,by simp,by simp,by simp⟩ ?_
 rintro m fr hh ⟨i,him,hj,f0,f1,f3⟩
 simp -dsimp (maxSteps:=1000000) (disch:=try exact dx) only[wpS,f3]
 refine bq_intro ?_ ?_<;>intro hc<;>simp only[decide_eq_true_eq,decide_eq_false_iff_not] at hc
 ·have g:=jb i hh hj
  simp -dsimp (maxSteps:=1000000) (disch:=try exact dx) only[wpS,wpT,reduceEqDiff,ld278,f0,f1,row_of g]
  refine call (st i hh (by omega) hj) ?_
  intro x h1 w1
  simp -dsimp (maxSteps:=1000000) (disch:=try exact dx) only[wpS,reduceEqDiff]
  refine call w1 ?_
  rintro _ h2 (⟨rfl,w2⟩|⟨rfl,w2⟩)
  ·simp -dsimp (maxSteps:=1000000) (disch:=try exact dx) only[wpS,wpT,reduceEqDiff,f3]
   exact⟨m - 1,by omega,i+1,by omega,w2,by simp[f0],by simp[f1],by simp⟩
  ·simp -dsimp (maxSteps:=1000000) (disch:=try exact dx) only[wpS,wpT,reduceEqDiff]
   exact .inr w2
 ·obtain rfl:i=TR:=by omega
  simp -dsimp (maxSteps:=1000000) (disch:=try exact dx) only[wpS,wpT]
  exact .inl hj
end Go.Id

namespace Go.Id
open Go
open Nat (reduceAdd reduceEqDiff reduceLeDiff)
set_option maxHeartbeats 16000000
theorem wrap_neg {n:Nat} (h0:0<n) (hn:n<18446744073709551616):IntKind.u64.wrap (-(n:Int))=((18446744073709551616 - n:Nat):Int):=by
 show(-(n:Int)) % 18446744073709551616=_
 omega
theorem rem_nat (P:Program) (t:TypeId) (ox oy:Operand) (a n:Nat) (hn:0<n):binop P .rem t ox oy (.int .u64 (a:Int)) (.int .u64 (n:Int))=some (.int .u64 ((a % n:Nat):Int)):=by
 rw[binop_rem P t ox oy (by omega),Int.tmod_eq_emod_of_nonneg (by omega),Int.natCast_emod]
theorem sbelow_ok {h0 h:IH} {k s n:Nat} (E:Ext h0 h) (hk:h0.n≤k) (hk2:k<h.n) (g:h.ext.get k=some (.cells [K64 s] 0 none)) (n0:0<n) (hn:n<18446744073709551616) :
  WV Proofs.Tryz.prog (.func (.func 175) #[] #[]) [ptr (2*k) 0,K64 n] h fun r h'=>Ext h0 h'∧h.n≤h'.n∧((∃x t,belowT n TR s=some (x,t)∧r=.tuple #[K64 x,KI 0]∧h'.ext.get k=some (.cells [K64 t] 0 none))∨(belowT n TR s=none∧r=.tuple #[K64 0,KI 9])):=by
 obtain⟨l1,l2,l3⟩:=lim_rest n0 hn
 obtain⟨R,hR⟩ : ∃R,R=18446744073709551616 - limN n:=⟨_,rfl⟩
 have rb:R<18446744073709551616:=by omega
 have wn:=wrap_neg n0 hn
 have hr : ∀ox oy,binop Proofs.Tryz.prog .rem 42 ox oy (K64 (18446744073709551616 - n)) (K64 n)=some (K64 R):=fun ox oy=>by
  rw[hR,←l1];exact rem_nat _ _ ox oy _ n n0
 obtain⟨A,wA⟩ : ∃A:Nat,IntKind.u64.wrap (-(R:Int))=(A:Int)∧IntKind.u64.wrap ((A:Int) - 1)=((limN n - 1:Nat):Int):=by
  by_cases c:R=0
  ·refine⟨0,by rw[c];rfl,?_⟩
   show(((0:Nat):Int) - 1) % 18446744073709551616=_
   omega
  ·refine⟨limN n,?_,?_⟩
   ·show(-(R:Int)) % 18446744073709551616=_
    omega
   ·show(((limN n:Nat):Int) - 1) % 18446744073709551616=_
    omega
 obtain⟨wA,wB⟩:=wA
 have gx1:(((h.new (.cells [K64 n] 0 none)).new (.cells [.int .u64 0] 0 none)).new (.cells [KI 0] 0 none)).ext.get h.n=some (.cells [K64 n] 0 none):=by simp (disch:=try exact dx) only[get_new_same,get_new_old]
 obtain⟨H1,hH1⟩ : ∃H,H=((((h.new (.cells [K64 n] 0 none)).new (.cells [.int .u64 0] 0 none)).new (.cells [KI 0] 0 none)).new (.cells [.int .u64 0] 0 none)).put (h.n+1+1+1) (.cells [K64 R] 0 none):=⟨_,rfl⟩
 have n1:H1.n=h.n+4:=by rw[hH1];rfl
 have E1:Ext h H1:=by rw[hH1];exact((((Ext.refl h).new _).new _).new _).new _ |>.put (by omega) _
 have c1:H1.ext.get h.n=some (.cells [K64 n] 0 none):=by rw[hH1];simp (disch:=try exact dx) only[get_new_same,get_new_old,get_put_old]
 have c2:H1.ext.get (h.n+1)=some (.cells [.int .u64 0] 0 none):=by rw[hH1];simp (disch:=try exact dx) only[get_new_same,get_new_old,get_put_old]
 have c3:H1.ext.get (h.n+2)=some (.cells [KI 0] 0 none):=by rw[hH1];simp (disch:=try exact dx) only[get_new_same,get_new_old,get_put_old]
 have c4:H1.ext.get (h.n+3)=some (.cells [K64 R] 0 none):=by rw[hH1];simp (disch:=try exact dx) only[get_put_same]
 refine enter (nt:=32) (rs:=[.cell 4 42,.cell 5 33]) Proofs.Tryz.func175 rfl rfl rfl (by simp) ?_
 simp -dsimp (maxSteps:=1000000) (disch:=try exact dx) only[wpS,wpT,reduceEqDiff,reduceLeDiff,reduceAdd,zc42,zc33,fa233_0,ld42,st42,row_of gx1,wn,hr]
 rw[←hH1]
 clear hH1
 obtain⟨F,hF⟩ : ∃F,F=(.func (.func 224) #[ptr (2*k) 0] #[]:Value):=⟨_,rfl⟩
 rw[←hF]
 refine call (cand64_ok (F:=F) (by rw[hF];rfl) (by rw[hF];rfl)) ?_
 rintro _ _ ⟨rfl,rfl⟩
 obtain⟨H2,hH2⟩ : ∃H,H=H1.new (.cells [F] 0 none):=⟨_,rfl⟩
 have n2:H2.n=h.n+5:=by rw[hH2,new_n];omega
 have E2:Ext H1 H2:=by rw[hH2];exact(Ext.refl _).new _
 have cF:H2.ext.get H1.n=some (.cells [F] 0 none):=by rw[hH2];simp (disch:=try exact dx) only[get_new_same]
 rw[←hH2]
 clear hH2
 simp -dsimp (maxSteps:=1000000) (disch:=try exact dx) only[wpS]
 refine range2 (p:=19) (nt:=32) rfl rfl (by decide) (fun r y hfn hnt hbd hy=>?_)
 have hT:=TR_eq
 have EE:=E.trans (E1.trans E2)
 have en:=EE.n
 let J:Nat→IH→Prop:=fun i hh => ∃si,Ext h0 hh∧H2.n<hh.n∧hh.ext.get H2.n=some (.loop r)∧hh.ext.get H1.n=some (.cells [F] 0 none)∧hh.ext.get k=some (.cells [K64 si] 0 none)∧hh.ext.get h.n=some (.cells [K64 n] 0 none)∧hh.ext.get (h.n+1)=some (.cells [.int .u64 0] 0 none)∧hh.ext.get (h.n+2)=some (.cells [KI 0] 0 none)∧hh.ext.get (h.n+3)=some (.cells [K64 R] 0 none)∧belowT n TR s=belowT n (TR - i) si
 let Fin:IH→Prop:=fun hh => ∃x t,belowT n TR s=some (x,t)∧Ext h0 hh∧H2.n<hh.n∧hh.ext.get H2.n=some (.loop (doneL r .ret))∧hh.ext.get k=some (.cells [K64 t] 0 none)∧hh.ext.get (h.n+1)=some (.cells [K64 x] 0 none)∧hh.ext.get (h.n+2)=some (.cells [KI 0] 0 none)
 have gk:=(E1.trans E2).kept hk2 g
 have J0:J 0 (H2.new (.loop r)):=by
  refine⟨s,EE.new _,by simp,get_new_same _ _ rfl,?_,?_,?_,?_,?_,?_,rfl⟩
  ·rw[get_new_old _ _ (by omega)];exact cF
  ·rw[get_new_old _ _ (by omega)];exact gk
  ·rw[get_new_old _ _ (by omega)];exact E2.kept (by omega) c1
  ·rw[get_new_old _ _ (by omega)];exact E2.kept (by omega) c2
  ·rw[get_new_old _ _ (by omega)];exact E2.kept (by omega) c3
  ·rw[get_new_old _ _ (by omega)];exact E2.kept (by omega) c4
 refine WV.mono (cand64r_ok (b:=H1.n) (F:=F) (y:=y) J Fin J0 (fun i hh hj=>by obtain⟨_,_,_,_,a,_⟩:=hj;exact a) ?_) ?_
 ·rintro i hh hi ⟨si,a1,a2,a3,a4,a5,a6,a7,a8,a9,a10⟩
  rw[hF]
  refine WV.mono (next_ok a5) ?_
  rintro _ _ ⟨rfl,rfl⟩
  obtain⟨H3,hH3⟩ : ∃H,H=hh.put k (.cells [K64 (nxS si)] 0 none):=⟨_,rfl⟩
  have an:=a1.n
  have e3:Ext h0 H3:=by rw[hH3];exact a1.put hk _
  have n3:H3.n=hh.n:=by rw[hH3];rfl
  have z0 : ∀j,j≠k→H3.ext.get j=hh.ext.get j:=fun j hj=>by rw[hH3];exact get_put_old _ _ hj
  have b5:H3.ext.get k=some (.cells [K64 (nxS si)] 0 none):=by rw[hH3];simp (disch:=try exact dx) only[get_put_same]
  rw[←hH3]
  clear hH3
  have b3:=(z0 H2.n (by omega)).trans a3
  have b4:=(z0 H1.n (by omega)).trans a4
  have b6:=(z0 h.n (by omega)).trans a6
  have b7:=(z0 (h.n+1) (by omega)).trans a7
  have b8:=(z0 (h.n+2) (by omega)).trans a8
  have b9:=(z0 (h.n+3) (by omega)).trans a9
  obtain⟨x,hx⟩ : ∃x,x=nxO si:=⟨_,rfl⟩
  have xb:=nxO_lt si
  rw[←hx] at xb ⊢
  refine hy _ _ _ b3 ?_
  simp -dsimp (maxSteps:=1000000) (disch:=try exact dx) only[wpS,reduceEqDiff]
  refine⟨rfl,b3,?_⟩
  rw[hfn,hnt,hbd]
  obtain⟨H6,hH6⟩ : ∃H,H=H3.put H2.n (.loop (busyL r)):=⟨_,rfl⟩
  have e6:Ext h0 H6:=by rw[hH6];exact e3.put (by omega) _
  have w0 : ∀j,j≠H2.n→H6.ext.get j=H3.ext.get j:=fun j hj=>by rw[hH6];exact get_put_old _ _ hj
  have zl:H6.ext.get H2.n=some (.loop (busyL r)):=by rw[hH6];exact get_put_same _ _ rfl
  have zn:H6.n=H3.n:=by rw[hH6];rfl
  rw[←hH6]
  clear hH6
  have d4:=(w0 H1.n (by omega)).trans b4
  have d5:=(w0 k (by omega)).trans b5
  have d6:=(w0 h.n (by omega)).trans b6
  have d7:=(w0 (h.n+1) (by omega)).trans b7
  have d8:=(w0 (h.n+2) (by omega)).trans b8
  have d9:=(w0 (h.n+3) (by omega)).trans b9
  obtain⟨q,hq⟩ : ∃q,TR - i=q+1:=⟨TR - i - 1,by omega⟩
  have a11:=a10
  rw[hq,belowT,←hx] at a11
  by_cases hc:x<limN n
  ·rw[if_pos hc] at a11
   have dc:decide ((x:Int)≤((limN n - 1:Nat):Int))=true:=decide_eq_true (by omega)
   simp -dsimp (maxSteps:=1000000) (disch:=try exact dx) only[wpS,wpT,reduceEqDiff,reduceLeDiff,ld42,st42,st33,row_of d9,row_of d6,wA,wB,dc,d7,d8]
   rw[←Int.natCast_emod]
   refine⟨by rw[get_put_old _ _ (by omega),get_put_old _ _ (by omega)];exact zl,.inr ⟨rfl,x % n,nxS si,a11,((e6.put (by omega) _).put (by omega) _).put (by omega) _,by show H2.n<H6.n;omega,get_put_same _ _ rfl,?_,?_,?_⟩⟩
   ·rw[get_put_old _ _ (by omega),get_put_old _ _ (by omega),get_put_old _ _ (by omega)];exact d5
   ·rw[get_put_old _ _ (by omega),get_put_old _ _ (by omega)];exact get_put_same _ _ rfl
   ·rw[get_put_old _ _ (by omega)];exact get_put_same _ _ rfl
  ·rw[if_neg hc] at a11
   have dc:decide ((x:Int)≤((limN n - 1:Nat):Int))=false:=decide_eq_false (by omega)
   have d0:((R:Int) == 0)=false:=by simp;omega
   simp -dsimp (maxSteps:=1000000) (disch:=try exact dx) only[wpS,wpT,reduceEqDiff,ld42,row_of d9,wA,wB,dc,d0]
   refine⟨zl,.inl ⟨rfl,nxS si,e6.put (by omega) _,by show H2.n<H6.n;omega,get_put_same _ _ rfl,?_,?_,?_,?_,?_,?_,by rw[show TR - (i+1)=q by omega];exact a11⟩⟩
   ·rw[get_put_old _ _ (by omega)];exact d4
   ·rw[get_put_old _ _ (by omega)];exact d5
   ·rw[get_put_old _ _ (by omega)];exact d6
   ·rw[get_put_old _ _ (by omega)];exact d7
   ·rw[get_put_old _ _ (by omega)];exact d8
   ·rw[get_put_old _ _ (by omega)];exact d9
 ·rintro _ hd (⟨si,x1,x2,x3,x4,x5,x6,x7,x8,x9,x10⟩|⟨x,t,x0,x1,x2,x3,x4,x5,x6⟩)
  ·rw[Nat.sub_self,belowT] at x10
   refine .inl ⟨x3,?_⟩
   have xn:=x1.n
   obtain⟨K0,hK0⟩ : ∃K0,K0=hd.put H2.n .dead:=⟨_,rfl⟩
   have ed:Ext h0 K0:=by rw[hK0];exact x1.put (by omega) _
   have kn:K0.n=hd.n:=by rw[hK0];rfl
   have z0 : ∀j,j≠H2.n→K0.ext.get j=hd.ext.get j:=fun j hj=>by rw[hK0];exact get_put_old _ _ hj
   have z7:=(z0 (h.n+1) (by omega)).trans x7
   have z8:=(z0 (h.n+2) (by omega)).trans x8
   rw[←hK0]
   clear hK0
   simp -dsimp (maxSteps:=1000000) (disch:=try exact dx) only[wpS,wpT,reduceEqDiff,reduceLeDiff,ld42,st42,st33,ld33,z7,z8]
   exact⟨(ed.put (by omega) _).put (by omega) _,by omega,.inr ⟨x10,rfl⟩⟩
  ·refine .inr (.inr ⟨x3,?_⟩)
   have xn:=x1.n
   obtain⟨K0,hK0⟩ : ∃K0,K0=hd.put H2.n .dead:=⟨_,rfl⟩
   have ed:Ext h0 K0:=by rw[hK0];exact x1.put (by omega) _
   have kn:K0.n=hd.n:=by rw[hK0];rfl
   have z0 : ∀j,j≠H2.n→K0.ext.get j=hd.ext.get j:=fun j hj=>by rw[hK0];exact get_put_old _ _ hj
   have z4:=(z0 k (by omega)).trans x4
   have z7:=(z0 (h.n+1) (by omega)).trans x5
   have z8:=(z0 (h.n+2) (by omega)).trans x6
   rw[←hK0]
   clear hK0
   simp -dsimp (maxSteps:=1000000) (disch:=try exact dx) only[wpS,reduceEqDiff,ld42,ld33,row_of z7,row_of z8]
   exact⟨ed,by omega,.inl ⟨x,t,x0,rfl,z4⟩⟩
end Go.Id

namespace Go.Id
open Go
open Nat (reduceAdd reduceEqDiff reduceLeDiff)
set_option maxHeartbeats 16000000
noncomputable def belowV (s:Nat) (n:Int):Value:=if n<1 then .tuple #[KI 0,chV 0,KI 2] else match belowT n.toNat TR s with
 | none=>.tuple #[KI 0,chV 0,KI 9]
 | some p=>.tuple #[KN p.1,chV p.2,KI 0]
theorem chBelow_ok {h:IH} {s:Nat} {n:Int} (hn:In64 n) :
  WV Proofs.Tryz.prog (.func (.func 84) #[] #[]) [chV s,KI n] h fun r h'=>Ext h h'∧r=belowV s n:=by
 unfold belowV
 obtain⟨H0,hH0,n0,E0,k0,k1⟩:=boxes2 h [K64 s] [.int .u64 0]
 refine enter (nt:=33) (rs:=[.tmp 4,.cell 5 63,.tmp 6]) Proofs.Tryz.func84 rfl rfl rfl (by simp) ?_
 simp -dsimp (maxSteps:=1000000) (disch:=try exact dx) only[wpS,reduceEqDiff,reduceAdd,zc63,chV]
 rw[←hH0]
 clear hH0
 by_cases c1:n<1
 ·have d1:decide (n<1)=true:=decide_eq_true c1
  rw[if_pos c1]
  simp -dsimp (maxSteps:=1000000) (disch:=try exact dx) only[wpS,wpT,reduceEqDiff,reduceLeDiff,bv63,st63,ld63,d1,k1,tk1]
  exact⟨E0.put (by omega) _,rfl⟩
 have d1:decide (n<1)=false:=decide_eq_false c1
 rw[if_neg c1]
 obtain⟨m,rfl⟩ : ∃m:Nat,n=(m:Int):=⟨n.toNat,by omega⟩
 have hn2:=hn.2
 rw[Int.toNat_natCast]
 simp -dsimp (maxSteps:=1000000) (disch:=try exact dx) only[wpS,wpT,reduceEqDiff,reduceLeDiff,ld63,d1,row_of k0,tk1]
 refine call (chfrom_ok (s:=s)) ?_
 rintro _ _ ⟨rfl,rfl⟩
 obtain⟨H1,hH1⟩ : ∃H,H=(H0.new (.cells [K64 s] 0 none)).new (.cells [K64 s] 0 none):=⟨_,rfl⟩
 have n1:H1.n=H0.n+2:=by rw[hH1];rfl
 have E1:Ext H0 H1:=by rw[hH1];exact((Ext.refl _).new _).new _
 have gk:H1.ext.get (H0.n+1)=some (.cells [K64 s] 0 none):=by rw[hH1];simp (disch:=try exact dx) only[get_new_same]
 rw[←hH1]
 clear hH1
 simp -dsimp (maxSteps:=1000000) (disch:=try exact dx) only[wpS,reduceEqDiff,cv3_42]
 refine call (sbelow_ok (n:=m) E1 (Nat.le_succ _) (by omega) gk (by omega) (by omega)) ?_
 rintro _ h2 ⟨X2,hn2,⟨x,t,ht,rfl,gt⟩|⟨ht,rfl⟩⟩
 ·rw[ht]
  have hx:=belowT_lt (by omega) ht
  have q1:=X2.kept (by omega) k1
  simp -dsimp (maxSteps:=1000000) (disch:=try exact dx) only[wpS,wpT,reduceEqDiff,reduceLeDiff,st63,ld63,cv42_3,fa233_0,fa231_0,row_of gt,tk1,q1]
  exact⟨(E0.trans X2).put (by omega) _,rfl⟩
 ·rw[ht]
  have q1:=X2.kept (by omega) k1
  simp -dsimp (maxSteps:=1000000) (disch:=try exact dx) only[wpS,wpT,reduceEqDiff,reduceLeDiff,bv63,st63,ld63,q1,tk1]
  exact⟨(E0.trans X2).put (by omega) _,rfl⟩
end Go.Id

namespace Go.Id
open Go
open Go.Proofs.Tryz (prog)
open Nat (reduceAdd reduceEqDiff reduceLeDiff)
set_option maxHeartbeats 16000000
theorem xor_top {x:Nat} (hx:x<9223372036854775808):x ^^^ 9223372036854775808=x+9223372036854775808:=by
 have h1:x<2 ^ 63:=hx
 have h2:=Nat.two_pow_add_eq_or_of_lt h1 1
 rw[Nat.mul_one] at h2
 rw[show(9223372036854775808:Nat)=2 ^ 63 from rfl,Nat.add_comm,h2]
 apply Nat.eq_of_testBit_eq
 intro i
 rw[Nat.testBit_xor,Nat.testBit_or,Nat.testBit_two_pow]
 by_cases hi:63=i
 ·subst hi
  rw[Nat.testBit_lt_two_pow h1]
  decide
 ·simp[hi]
theorem wrd_top {a:Nat} (ha:a<H8):wrd a 7<9223372036854775808:=(wrd7 (by have:=H8_two;omega)).2 ha
theorem wdC_top {a:Nat} (ha:a<H8):IH.splice (wdC a) 7 [K64 (wrd a 7+9223372036854775808)]=wdC (a+H8):=by
 have ht:=wrd_top ha
 have hw:a<18446744073709551616 ^ (7+1):=by rw[←W8_eq];have:=H8_two;omega
 have e:H8=9223372036854775808*18446744073709551616 ^ 7:=by unfold H8;rfl
 apply List.ext_getElem?
 intro j
 have hl:(IH.splice (wdC a) 7 [K64 (wrd a 7+9223372036854775808)]).length=8:=by simp[IH.splice,wdC_len]
 by_cases h8:j<8
 ·rw[wdC_get _ _ h8,e]
  by_cases h7:j=7
  ·subst h7
   rw[wrd_add_at hw (by omega)]
   simp[IH.splice,wdC_len]
  ·rw[wrd_add_low (by omega)]
   have hj:j<7:=by omega
   simp only[IH.splice]
   rw[List.getElem?_append_left (by rw[List.length_take,wdC_len];omega),List.getElem?_take,if_pos hj,wdC_get _ _ h8]
 ·rw[List.getElem?_eq_none (by omega),List.getElem?_eq_none (by rw[wdC_len];omega)]
theorem wcmpN_ok {h:IH} (a b:Nat) (ha:a<H8) (hb:b<H8):WV prog (.func (.func 176) #[] #[]) [wdV a,wdV b] h fun r h'=>Ext h h'∧r=KI (if a<b then -1 else if a=b then 0 else 1):=by
 have ja:(7:Nat)<8:=by decide
 have j7:idxAt 7 8=some 7:=rfl
 have ga:=wdC_get a 7 (by omega)
 have gb:=wdC_get b 7 (by omega)
 have ta:=wrd_top ha
 have tb:=wrd_top hb
 have xa : ∀ox oy,binop prog .xor 42 ox oy (K64 (wrd a 7)) (.int .u64 9223372036854775808)=some (K64 (wrd a 7+9223372036854775808)):=fun ox oy=>by
  rw[←xor_top ta];exact binop_xor_u64 _ _ ox oy _ 9223372036854775808 (by omega) (by decide)
 have xb : ∀ox oy,binop prog .xor 42 ox oy (K64 (wrd b 7)) (.int .u64 9223372036854775808)=some (K64 (wrd b 7+9223372036854775808)):=fun ox oy=>by
  rw[←xor_top tb];exact binop_xor_u64 _ _ ox oy _ 9223372036854775808 (by omega) (by decide)
 have sa:=wdC_top ha
 have sb:=wdC_top hb
 obtain⟨H0,hH0,n0,E0,k0,k1⟩:=boxes2 h (wdC a) (wdC b)
 refine enter (nt:=16) (rs:=[.tmp 4]) Proofs.Tryz.func176 rfl rfl rfl (by simp) ?_
 simp -dsimp (maxSteps:=1000000) (disch:=try exact dx) only[wpS,reduceEqDiff,reduceAdd,ar44,cells8]
 rw[←hH0]
 clear hH0
 simp -dsimp (maxSteps:=1000000) (disch:=try exact dx) only[wpS,wpT,reduceEqDiff,reduceLeDiff,reduceAdd,ar44,ld42,st42,ld44,row_of k0,row_of k1,k0,k1,ar44,j7,ga,gb,xa,xb,wdC_len,sa,sb,wd_take0]
 refine call (sizeOrder_ok (a+H8) (b+H8) (by have:=H8_two;omega) (by have:=H8_two;omega)) ?_
 rintro _ h1 ⟨X1,rfl⟩
 have e:(if a+H8<b+H8 then (-1:Int) else if a+H8=b+H8 then 0 else 1)=if a<b then -1 else if a=b then 0 else 1:=by
  by_cases c1:a<b
  ·rw[if_pos c1,if_pos (by omega)]
  ·rw[if_neg c1,if_neg (by omega)]
   by_cases c2:a=b
   ·rw[if_pos c2,if_pos (by omega)]
   ·rw[if_neg c2,if_neg (by omega)]
 rw[e]
 have EE:Ext h ((H0.put h.n (.cells (wdC (a+H8)) 0 none)).put (h.n+1) (.cells (wdC (b+H8)) 0 none)):=(E0.put (Nat.le_refl _) _).put (by omega) _
 simp -dsimp (maxSteps:=1000000) (disch:=try exact dx) only[wpS,wpT,reduceEqDiff]
 exact EE.trans X1
theorem bitL_top {n i:Nat} (hn:n<18446744073709551616 ^ (i+1)) (hw:wrd n i≠0):bitL n=64*i+bitL (wrd n i):=by
 have hp:0<18446744073709551616 ^ i:=Nat.pow_pos (by omega)
 have hd:n / 18446744073709551616 ^ i=wrd n i:=by
  rw[wrd,Nat.mod_eq_of_lt]
  rw[Nat.div_lt_iff_lt_mul hp,Nat.mul_comm,←Nat.pow_succ];exact hn
 symm
 refine bitL_eq fun N=>?_
 have e64:18446744073709551616 ^ i=2 ^ (64*i):=by rw[Nat.pow_mul]
 by_cases h:N<64*i
 ·have h1:2 ^ N≤18446744073709551616 ^ i:=by rw[e64];exact Nat.pow_le_pow_right (by omega) (by omega)
  have h2:18446744073709551616 ^ i≤n:=by
   have:=(Nat.le_div_iff_mul_le hp (x:=1) (y:=n)).1 (by rw[hd];omega)
   omega
  exact⟨fun _=>Nat.le_trans h1 h2,fun _=>by omega⟩
 ·obtain⟨M,rfl⟩ : ∃M,N=64*i+M:=⟨N - 64*i,by omega⟩
  have h1:2 ^ (64*i+M)=2 ^ M*18446744073709551616 ^ i:=by rw[Nat.pow_add,e64,Nat.mul_comm]
  rw[h1,←Nat.le_div_iff_mul_le hp,hd,←bitL_iff]
  omega
theorem chlength_ok {h:IH} (n:Nat) (hn:n<W8):WV prog (.func (.func 255) #[] #[]) [wdV n] h fun r h'=>Ext h h'∧r=KN (bitL n):=by
 obtain⟨H0,hH0⟩ : ∃H,H=h.new (.cells (wdC n) 0 none):=⟨_,rfl⟩
 have E0:Ext h H0:=by rw[hH0];exact(Ext.refl h).new _
 have g0:H0.ext.get h.n=some (.cells (wdC n) 0 none):=by rw[hH0];simp (disch:=try exact dx) only[get_new_same]
 refine enter (nt:=21) (rs:=[.tmp 2]) Proofs.Tryz.func255 rfl rfl rfl (by simp) ?_
 simp -dsimp (maxSteps:=1000000) (disch:=try exact dx) only[wpS,cells8]
 rw[←hH0]
 clear hH0
 refine loop (fun m fr hh=>hh=H0∧m≤8∧n<18446744073709551616 ^ m∧fget fr 1=some (ptr (2*h.n) 0)∧fget fr 3=some (KI 0)∧fget fr 4=some (KI ((m:Int) - 1))) 8
  ⟨rfl,Nat.le_refl _,by rw[←W8_eq];exact hn,by simp,by simp,by simp⟩ ?_
 rintro m fr hh ⟨rfl,hm,hlt,f1,f3,f4⟩
 rcases Nat.eq_zero_or_pos m with rfl|hp
 ·have n0:n=0:=by rw[Nat.pow_zero] at hlt;omega
  subst n0
  simp -dsimp (maxSteps:=1000000) (disch:=try exact dx) only[wpS,wpT,reduceEqDiff,f3,f4]
  exact⟨E0,rfl⟩
 ·obtain⟨i,rfl⟩ : ∃i,m=i+1:=⟨m - 1,by omega⟩
  have h2:(((i+1:Nat):Int) - 1)=(i:Int):=by omega
  rw[h2] at f4
  have gi:=wdC_get n i (by omega)
  have wl:=wrd_lt n i
  by_cases c:wrd n i=0
  ·have d:(((wrd n i:Nat):Int) != 0)=false:=by simp[c]
   simp -dsimp (maxSteps:=1000000) (disch:=try exact dx) only[wpS,wpT,reduceEqDiff,ar44,ld42,f1,f4,row_of g0,ar44,gi,d]
   refine⟨i,by omega,rfl,by omega,?_,by simp[f1],by simp[f3],by simp⟩
   have:=mod_wrd n i
   rw[c,Nat.mul_zero,Nat.add_zero,Nat.mod_eq_of_lt hlt] at this
   rw[this]
   exact Nat.mod_lt _ (Nat.pow_pos (by omega))
  ·have d:(((wrd n i:Nat):Int) != 0)=true:=by simp[c]
   simp -dsimp (maxSteps:=1000000) (disch:=try exact dx) only[wpS,wpT,reduceEqDiff,ar44,ld42,f1,f4,row_of g0,ar44,gi,d]
   refine call (len64_ok (wrd n i) wl) ?_
   rintro _ _ ⟨rfl,k,rfl,hk,hkN⟩
   have ek:=bitL_eq hkN
   have et:=bitL_top hlt c
   simp -dsimp (maxSteps:=1000000) (disch:=try exact dx) only[wpS,reduceEqDiff]
   exact⟨E0,congrArg (Value.int .i64) (by rw[et,←ek];omega)⟩
end Go.Id

namespace Go.Id
theorem pow64 (i:Nat):18446744073709551616 ^ i=2 ^ (64*i):=by rw[Nat.pow_mul]
theorem wrd_modlow {v k j:Nat} (h:64*(j+1)≤k):wrd (v % 2 ^ k) j=wrd v j:=by
 have e:2 ^ k=18446744073709551616 ^ (j+1)*2 ^ (k - 64*(j+1)):=by rw[pow64,←Nat.pow_add];congr 1;omega
 rw[wrd,wrd,e]
 have h1:v % (18446744073709551616 ^ (j+1)*2 ^ (k - 64*(j+1))) % 18446744073709551616 ^ (j+1)=v % 18446744073709551616 ^ (j+1):=Nat.mod_mul_right_mod _ _ _
 have h2 : ∀n,n / 18446744073709551616 ^ j % 18446744073709551616=n % 18446744073709551616 ^ (j+1) / 18446744073709551616 ^ j:=fun n=>by
  rw[Nat.pow_succ,Nat.mod_mul_right_div_self]
 rw[h2,h2,h1]
theorem wrd_modtop {v q r:Nat} (hr:r<64):wrd (v % 2 ^ (64*q+r)) q=wrd v q % 2 ^ r:=by
 have e:2 ^ (64*q+r)=18446744073709551616 ^ q*2 ^ r:=by rw[pow64,Nat.pow_add]
 have h1:v % (18446744073709551616 ^ q*2 ^ r) / 18446744073709551616 ^ q=v / 18446744073709551616 ^ q % 2 ^ r:=Nat.mod_mul_right_div_self _ _ _
 rw[wrd,wrd,e,h1]
 have h2:18446744073709551616=2 ^ r*2 ^ (64 - r):=by rw[←Nat.pow_add,show r+(64 - r)=64 by omega]
 have h3:v / 18446744073709551616 ^ q % 2 ^ r<18446744073709551616:=by
  have a:=Nat.mod_lt (v / 18446744073709551616 ^ q) (Nat.two_pow_pos r)
  have b:2 ^ r≤2 ^ 64:=Nat.pow_le_pow_right (by omega) (by omega)
  omega
 rw[Nat.mod_eq_of_lt h3]
 generalize v / 18446744073709551616 ^ q=z
 conv=>rhs;rw[h2]
 rw[Nat.mod_mul_right_mod]
theorem wrd_modhigh {v q r j:Nat} (hr:r≤64) (hj:q<j):wrd (v % 2 ^ (64*q+r)) j=0:=by
 refine wrd_high (i:=q+1) ?_ (by omega)
 rw[pow64]
 exact Nat.lt_of_lt_of_le (Nat.mod_lt _ (Nat.two_pow_pos _)) (Nat.pow_le_pow_right (by omega) (by omega))
end Go.Id
