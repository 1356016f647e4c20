/-
  Contracts: complete graphs; bounds that do not fit; the number of nodes of a set.
-/
import Derived.Test.YtcmfdbjgimekbaaDoorEnumerateKnownAo
import Derived.Test.YtcmfdbjgimekbaaDoorEnumerateKnownAq
set_option linter.unusedVariables false
set_option linter.unusedSimpArgs false
set_option linter.defProp false
set_option linter.deprecated false
/-! Contracts: complete graphs; bounds that do not fit; the number of nodes of a set. -/
namespace Go.Id
open Go

/-- The edges of a complete graph whose first node lies below a. -/
def fullTo (n a : Nat) : List (Nat × Nat) := (List.range a).flatMap fun a => (List.range (n - (a + 1))).map fun d => (a, a + 1 + d)
def fullRow (a d : Nat) : List (Nat × Nat) := (List.range d).map fun d => (a, a + 1 + d)
theorem fullTo_succ (n a : Nat) : fullTo n (a + 1) = fullTo n a ++ fullRow a (n - (a + 1)) := by simp [fullTo, fullRow, List.range_succ]
theorem fullRow_succ (a d : Nat) : fullRow a (d + 1) = fullRow a d ++ [(a, a + 1 + d)] := by simp [fullRow, List.range_succ]
theorem fullTo_len (n a : Nat) : (fullTo n a).length ≤ a * n := by
  induction a with
  | zero => simp [fullTo]
  | succ a ih => rw [fullTo_succ, List.length_append]; simp only [fullRow, List.length_map, List.length_range]; rw [Nat.add_mul]; omega
set_option maxHeartbeats 4000000 in
theorem full_ok {h : IH} (n : Nat) (hn : n ≤ 12) : WV Proofs.Tryd.prog (.func (.func 19) #[] #[]) [KI n] h fun r h' => Ext h h' ∧ ∃ v, r = .agg #[KI n, v] ∧ SlOf h' 2 v (fullE n).length (eCells (castE (fullE n))) := by
  refine enter (nt := 29) (rs := [.cell 2 32]) Proofs.Tryd.func19 rfl rfl rfl (by simp) ?_
  simp -dsimp (maxSteps := 1000000) (disch := first | omega | (simp only [new_n, put_n]; omega) | decide +kernel | (repeat first | rw [new_n] | rw [put_n])) only [wpS, wpT, Nat.reduceEqDiff, reduceIte, Nat.reduceLT, Nat.reduceLeDiff, Nat.reduceAdd, Nat.reduceMul, Nat.reduceBEq, Int.reduceToNat, zc32, bv32, pl32_0, st32, fa32_1, ld30, bv52, pl52_0, pl52_1, bs30, st30, ld32, ba30_30]
  obtain ⟨T, hT⟩ : ∃ T, T = h.new (.cells [.int .i64 0, .slice none 0 0] 0 none) := ⟨_, rfl⟩
  have hTn : T.n = h.n + 1 := by rw [hT]; rfl
  have eT : Ext h T := by rw [hT]; exact (Ext.refl h).new _
  have gT : T.ext.get h.n = some (.cells [.int .i64 0, .slice none 0 0] 0 none) := by rw [hT]; simp (disch := first | omega | (simp only [new_n, put_n]; omega) | (repeat first | rw [new_n] | rw [put_n])) only [get_new_same, get_new_old, get_put_same, get_put_old]
  rw [← hT]
  have gh0 : GH T ((T.new (.cells [.int .i64 0, .slice none 0 0] 0 none)).put (h.n + 1) (.cells [KI n, .slice none 0 0] 0 none)) (h.n + 1) n (.slice none 0 0) [] :=
    ⟨((Ext.refl T).new _).put (by omega) _, get_put_same _ _ rfl, by simp only [new_n, put_n]; omega, by omega, Acc.nil _ _ (by decide)⟩
  generalize (T.new (.cells [.int .i64 0, .slice none 0 0] 0 none)).put (h.n + 1) (.cells [KI n, .slice none 0 0] 0 none) = hh0 at *
  refine loop (fun m fr hh => ∃ (a : Nat) (out : Value), a + m = n ∧ GH T hh (h.n + 1) n out (fullTo n a) ∧ fget fr 0 = some (KI n) ∧ fget fr 2 = some (ptr (2 * h.n) 0) ∧ fget fr 3 = some (ptr (2 * (h.n + 1)) 0) ∧ fget fr 8 = some (KI n) ∧ fget fr 9 = some (KI a)) n
    ⟨0, _, by omega, gh0, by simp, by simp, by simp, by simp, by simp⟩ ?_
  rintro m fr hh ⟨a, out, ham, hG, f0, f2, f3, f8, f9⟩
  simp -dsimp (maxSteps := 1000000) (disch := first | omega | (simp only [new_n, put_n]; omega) | decide +kernel | (repeat first | rw [new_n] | rw [put_n])) only [wpS, wpT, Nat.reduceEqDiff, reduceIte, Nat.reduceLT, Nat.reduceLeDiff, Nat.reduceAdd, Nat.reduceMul, Nat.reduceBEq, Int.reduceToNat, zc32, bv32, pl32_0, st32, fa32_1, ld30, bv52, pl52_0, pl52_1, bs30, st30, ld32, ba30_30, f0, f2, f3, f8, f9]
  refine bq_intro ?_ ?_ <;> intro hc <;> simp only [bne_iff_ne, beq_iff_eq, decide_eq_true_eq, decide_eq_false_iff_not, bne_eq_false_iff_eq, beq_eq_false_iff_ne, ne_eq, Bool.not_eq_true', Bool.not_eq_false', Bool.not_eq_true, Bool.not_eq_false, Decidable.not_not, Bool.not_not] at hc
  · simp -dsimp (maxSteps := 1000000) (disch := first | omega | (simp only [new_n, put_n]; omega) | decide +kernel | (repeat first | rw [new_n] | rw [put_n])) only [wpS, wpT, Nat.reduceEqDiff, reduceIte, Nat.reduceLT, Nat.reduceLeDiff, Nat.reduceAdd, Nat.reduceMul, Nat.reduceBEq, Int.reduceToNat, zc32, bv32, pl32_0, st32, fa32_1, ld30, bv52, pl52_0, pl52_1, bs30, st30, ld32, ba30_30, f0, f2, f3, f8, f9]
    refine loop (fun m2 fr hh => ∃ (d : Nat) (out : Value), d + m2 = n - (a + 1) ∧ GH T hh (h.n + 1) n out (fullTo n a ++ fullRow a d) ∧ fget fr 0 = some (KI n) ∧ fget fr 2 = some (ptr (2 * h.n) 0) ∧ fget fr 3 = some (ptr (2 * (h.n + 1)) 0) ∧ fget fr 4 = some (KI a) ∧ fget fr 5 = some (KI ((a + 1 + d : Nat) : Int)) ∧ fget fr 8 = some (KI n) ∧ fget fr 9 = some (KI a)) (n - (a + 1))
      ⟨0, out, by omega, by simpa [fullRow] using hG, by simp [f0], by simp [f2], by simp [f3], by simp, by simp, by simp [f8], by simp [f9]⟩ ?_
    clear f0 f2 f3 f8 f9 hG
    rintro m2 fr hh ⟨d, out, hdm, hG, f0, f2, f3, f4, f5, f8, f9⟩
    simp -dsimp (maxSteps := 1000000) (disch := first | omega | (simp only [new_n, put_n]; omega) | decide +kernel | (repeat first | rw [new_n] | rw [put_n])) only [wpS, wpT, Nat.reduceEqDiff, reduceIte, Nat.reduceLT, Nat.reduceLeDiff, Nat.reduceAdd, Nat.reduceMul, Nat.reduceBEq, Int.reduceToNat, zc32, bv32, pl32_0, st32, fa32_1, ld30, bv52, pl52_0, pl52_1, bs30, st30, ld32, ba30_30, f0, f2, f3, f4, f5, f8, f9]
    refine bq_intro ?_ ?_ <;> intro hc2 <;> simp only [bne_iff_ne, beq_iff_eq, decide_eq_true_eq, decide_eq_false_iff_not, bne_eq_false_iff_eq, beq_eq_false_iff_ne, ne_eq, Bool.not_eq_true', Bool.not_eq_false', Bool.not_eq_true, Bool.not_eq_false, Decidable.not_not, Bool.not_not] at hc2
    · have rg2 : hh.row (2 * (h.n + 1)) = some [KI n, out] := by rw [row_even]; simp only [IH.cells, hG.gg]
      have hT2 : h.n + 1 < hh.n := hG.lg
      have hT1 : T.n ≤ hh.n := hG.e.n
      have hl1 := fullTo_len n a
      have hl2 : a * n ≤ 12 * 12 := Nat.mul_le_mul (by omega) hn
      have hl3 : (fullTo n a ++ fullRow a d).length ≤ 300 := by
        rw [List.length_append]; simp only [fullRow, List.length_map, List.length_range]; omega
      obtain ⟨out', h5, hap, hA5, hG5, hE5⟩ := hG.acc.appN (P := Proofs.Tryd.prog) (t := 30) ap30 (m := 1) (new := [KI a, KI ((a + 1 + d : Nat) : Int)]) (by omega) rfl rfl (by omega) (by omega) hG.e (by omega)
      have hap' : append Proofs.Tryd.prog (hh.new (.cells [KI a, KI ((a + 1 + d : Nat) : Int)] 2 none)) 30 out (.slice (some ⟨2 * hh.n, 0, none⟩) 1 3) = some (out', h5) := hap
      have gg5 : h5.ext.get (h.n + 1) = some (.cells [KI n, out] 0 none) := hG5.var hT2 hG.gg
      have h5n := hG5.n
      have e5 : ((a + 1 + d : Nat) : Int) + 1 = ((a + 1 + (d + 1) : Nat) : Int) := by omega
      simp -dsimp (maxSteps := 1000000) (disch := first | omega | (simp only [new_n, put_n]; omega) | decide +kernel | (repeat first | rw [new_n] | rw [put_n])) only [wpS, wpT, Nat.reduceEqDiff, reduceIte, Nat.reduceLT, Nat.reduceLeDiff, Nat.reduceAdd, Nat.reduceMul, Nat.reduceBEq, Int.reduceToNat, zc32, bv32, pl32_0, st32, fa32_1, ld30, bv52, pl52_0, pl52_1, bs30, st30, ld32, ba30_30, f0, f2, f3, f4, f5, f8, f9, rg2, hap', gg5, hA5.sl.cells, hA5.sl.cok, e5]
      refine ⟨m2 - 1, by omega, d + 1, out', by omega, ⟨hE5.put (by omega) _, get_put_same _ _ rfl, by simp only [put_n]; omega, hG.hg, ?_⟩, by simp [f0], by simp [f2], by simp [f3], by simp [f4], by simp, by simp [f8], by simp [f9]⟩
      rw [fullRow_succ, ← List.append_assoc, castE_app, eCells_app]
      have := hA5.put gg5 (.cells [KI n, out'] 0 none)
      rw [show ((fullTo n a ++ fullRow a d) ++ [(a, a + 1 + d)]).length = (fullTo n a ++ fullRow a d).length + 1 by simp; omega]
      exact this
    · have hd : d = n - (a + 1) := by omega
      subst hd
      simp -dsimp (maxSteps := 1000000) (disch := first | omega | (simp only [new_n, put_n]; omega) | decide +kernel | (repeat first | rw [new_n] | rw [put_n])) only [wpS, wpT, Nat.reduceEqDiff, reduceIte, Nat.reduceLT, Nat.reduceLeDiff, Nat.reduceAdd, Nat.reduceMul, Nat.reduceBEq, Int.reduceToNat, zc32, bv32, pl32_0, st32, fa32_1, ld30, bv52, pl52_0, pl52_1, bs30, st30, ld32, ba30_30, f9]
      exact ⟨m - 1, by omega, a + 1, out, by omega, by rw [fullTo_succ]; exact hG, by simp [f0], by simp [f2], by simp [f3], by simp [f8], by simp⟩
  · obtain rfl : a = n := by omega
    have rg2 : hh.row (2 * (h.n + 1)) = some [KI a, out] := by rw [row_even]; simp only [IH.cells, hG.gg]
    have hgr : hh.ext.get h.n = some (.cells [.int .i64 0, .slice none 0 0] 0 none) := by rw [hG.e.get _ (by omega)]; exact gT
    simp -dsimp (maxSteps := 1000000) (disch := first | omega | (simp only [new_n, put_n]; omega) | decide +kernel | (repeat first | rw [new_n] | rw [put_n])) only [wpS, wpT, Nat.reduceEqDiff, reduceIte, Nat.reduceLT, Nat.reduceLeDiff, Nat.reduceAdd, Nat.reduceMul, Nat.reduceBEq, Int.reduceToNat, zc32, bv32, pl32_0, st32, fa32_1, ld30, bv52, pl52_0, pl52_1, bs30, st30, ld32, ba30_30, f2, f3, rg2, hgr, List.drop_zero, take2, hG.acc.sl.cok]
    exact ⟨(eT.trans hG.e).put (by omega) _, out, rfl, (hG.acc.sl).keep ((Keep.refl hh).put hgr _)⟩
/-- Arguments that do not fit. -/
structure BadAt (h : IH) (n : Int) (E : List (Int × Int)) (v w : Value) (ws : List Int) (lo hi d : Int) : Prop where
  hn : In64 n
  hE : SlOf h 2 v E.length (eCells E)
  hlen : E.length < 1000000000
  hI : ∀ e ∈ E, In64 e.1 ∧ In64 e.2
  hW : SlOf h 1 w ws.length (ws.map KI)
  wl : ws.length ≤ 1000000
  wI : ∀ x ∈ ws, In64 x
  hlo : In64 lo
  hhi : In64 hi
  hd : In64 d
  err : enErr n E ws lo hi d ≠ 0
theorem BadAt.keep {h h' : IH} {n : Int} {E : List (Int × Int)} {v w : Value} {ws : List Int} {lo hi d : Int} (b : BadAt h n E v w ws lo hi d) (e : Keep h h') : BadAt h' n E v w ws lo hi d :=
  { b with hE := b.hE.keep e, hW := b.hW.keep e }
set_option maxHeartbeats 8000000 in
theorem bad_ok {h : IH} {n : Int} {E : List (Int × Int)} {v w : Value} {ws : List Int} {lo hi d : Int} (b : BadAt h n E v w ws lo hi d) :
    WV Proofs.Tryd.prog (.func (.func 27) #[] #[]) [.agg #[KI n, v], .agg #[w, KI lo, KI hi, KI d], KI (enErr n E ws lo hi d)] h fun r h' => Ext h h' ∧ r = .bool true := by
  refine enter (nt := 78) (rs := [.tmp 6]) Proofs.Tryd.func27 rfl rfl rfl (by simp) ?_
  simp -dsimp (maxSteps := 1000000) (disch := first | omega | (simp only [new_n, put_n]; omega) | decide +kernel | (repeat first | rw [new_n] | rw [put_n])) only [wpS, wpT, Nat.reduceEqDiff, reduceIte, Nat.reduceLT, Nat.reduceLeDiff, Nat.reduceAdd, Nat.reduceMul, Nat.reduceBEq, Int.reduceToNat, ld32, ld35, zc59, st59]
  have e0 : ∀ o1 o2, Ext h ((h.new o1).new o2) := fun o1 o2 => ((Ext.refl h).new _).new _
  have b0 := b.keep (e0 (.cells [KI n, v] 0 none) (.cells [w, KI lo, KI hi, KI d] 0 none)).keep
  refine call (districts_err b0.hn b0.hE b0.hlen b0.hI b0.hW b0.wl b0.wI b0.hlo b0.hhi b0.hd b0.err) ?_
  rintro r h1 ⟨hE1, rfl⟩
  have r0 : h1.row (2 * h.n) = some [KI n, v] := by rw [hE1.row (.inr (by simp only [new_n]; omega)), row_even]; simp only [IH.cells]; simp (disch := first | omega | (simp only [new_n, put_n]; omega) | (repeat first | rw [new_n] | rw [put_n])) only [get_new_same, get_new_old, get_put_same, get_put_old]
  have r1 : h1.row (2 * (h.n + 1)) = some [w, KI lo, KI hi, KI d] := by rw [hE1.row (.inr (by simp only [new_n]; omega)), row_even]; simp only [IH.cells]; simp (disch := first | omega | (simp only [new_n, put_n]; omega) | (repeat first | rw [new_n] | rw [put_n])) only [get_new_same, get_new_old, get_put_same, get_put_old]
  have n1 : h.n + 2 ≤ h1.n := hE1.n
  have tk2 : List.take 2 (List.drop 0 [KI n, v]) = [KI n, v] := rfl
  have tk4 : List.take 4 (List.drop 0 [w, KI lo, KI hi, KI d]) = [w, KI lo, KI hi, KI d] := rfl
  have hspl : ∀ n, IH.splice [.int .u64 0, .int .u64 0, .int .u64 0, .int .u64 0, .int .u64 0, .int .u64 0, .int .u64 0, .int .u64 0] 0 (wdC n) = wdC n := fun n => splice_all (by rw [wdC_len]; rfl)
  simp -dsimp (maxSteps := 1000000) (disch := first | omega | (simp only [new_n, put_n]; omega) | decide +kernel | (repeat first | rw [new_n] | rw [put_n])) only [wpS, wpT, Nat.reduceEqDiff, reduceIte, Nat.reduceLT, Nat.reduceLeDiff, Nat.reduceAdd, Nat.reduceMul, Nat.reduceBEq, Int.reduceToNat, ld32, ld35, zc59, st59, r0, r1, tk2, tk4]
  have b1 := b0.keep hE1.keep
  refine call (count_err b1.hn b1.hE b1.hlen b1.hI b1.hW b1.wl b1.wI b1.hlo b1.hhi b1.hd b1.err) ?_
  rintro r h2 ⟨hE2, rfl⟩
  simp -dsimp (maxSteps := 1000000) (disch := first | omega | (simp only [new_n, put_n]; omega) | decide +kernel | (repeat first | rw [new_n] | rw [put_n])) only [wpS, wpT, Nat.reduceEqDiff, reduceIte, Nat.reduceLT, Nat.reduceLeDiff, Nat.reduceAdd, Nat.reduceMul, Nat.reduceBEq, Int.reduceToNat, ld32, ld35, zc59, st59, wdV_form, wdC_len, wdC_all, hspl, wd_take]
  have eA : Ext h2 ((h2.new (.cells [.int .u64 0, .int .u64 0, .int .u64 0, .int .u64 0, .int .u64 0, .int .u64 0, .int .u64 0, .int .u64 0] 0 none)).put h2.n (.cells (wdC 0) 0 none)) := ((Ext.refl h2).new _).put (Nat.le_refl _) _
  generalize ((h2.new (.cells [.int .u64 0, .int .u64 0, .int .u64 0, .int .u64 0, .int .u64 0, .int .u64 0, .int .u64 0, .int .u64 0] 0 none)).put h2.n (.cells (wdC 0) 0 none)) = h3 at *
  have x3 : Ext h1 h3 := hE2.trans eA
  have r0c : h3.row (2 * h.n) = some [KI n, v] := by rw [x3.row (.inr (by omega))]; exact r0
  have r1c : h3.row (2 * (h.n + 1)) = some [w, KI lo, KI hi, KI d] := by rw [x3.row (.inr (by omega))]; exact r1
  simp -dsimp (maxSteps := 1000000) (disch := first | omega | (simp only [new_n, put_n]; omega) | decide +kernel | (repeat first | rw [new_n] | rw [put_n])) only [wpS, wpT, Nat.reduceEqDiff, reduceIte, Nat.reduceLT, Nat.reduceLeDiff, Nat.reduceAdd, Nat.reduceMul, Nat.reduceBEq, Int.reduceToNat, ld32, ld35, zc59, st59, r0c, r1c, tk2, tk4]
  have b3 := b1.keep x3.keep
  refine call (all_err b3.hn b3.hE b3.hlen b3.hI b3.hW b3.wl b3.wI b3.hlo b3.hhi b3.hd b3.err) ?_
  rintro r h4 ⟨hE4, rfl⟩
  have x4 : Ext h1 h4 := x3.trans hE4
  have r0d : h4.row (2 * h.n) = some [KI n, v] := by rw [x4.row (.inr (by omega))]; exact r0
  have r1d : h4.row (2 * (h.n + 1)) = some [w, KI lo, KI hi, KI d] := by rw [x4.row (.inr (by omega))]; exact r1
  simp -dsimp (maxSteps := 1000000) (disch := first | omega | (simp only [new_n, put_n]; omega) | decide +kernel | (repeat first | rw [new_n] | rw [put_n])) only [wpS, wpT, Nat.reduceEqDiff, reduceIte, Nat.reduceLT, Nat.reduceLeDiff, Nat.reduceAdd, Nat.reduceMul, Nat.reduceBEq, Int.reduceToNat, ld32, ld35, zc59, st59]
  refine drawn [(0, [3]), (1, [3])] (by kernel_rfl) (by kernel_rfl) rfl ?_
  simp -dsimp (maxSteps := 1000000) (disch := first | omega | (simp only [new_n, put_n]; omega) | decide +kernel | (repeat first | rw [new_n] | rw [put_n])) only [wpS, wpT, Nat.reduceEqDiff, reduceIte, Nat.reduceLT, Nat.reduceLeDiff, Nat.reduceAdd, Nat.reduceMul, Nat.reduceBEq, Int.reduceToNat, ld32, ld35, zc59, st59, r0d, r1d, tk2, tk4]
  refine call (refOf_ok (-1) (by decide)) ?_
  rintro _ h5 ⟨hE5, rfl⟩
  have x5 : Ext h1 h5 := x4.trans hE5
  have r0e : h5.row (2 * h.n) = some [KI n, v] := by rw [x5.row (.inr (by omega))]; exact r0
  have r1e : h5.row (2 * (h.n + 1)) = some [w, KI lo, KI hi, KI d] := by rw [x5.row (.inr (by omega))]; exact r1
  have b5 := b1.keep x5.keep
  simp -dsimp (maxSteps := 1000000) (disch := first | omega | (simp only [new_n, put_n]; omega) | decide +kernel | (repeat first | rw [new_n] | rw [put_n])) only [wpS, wpT, Nat.reduceEqDiff, reduceIte, Nat.reduceLT, Nat.reduceLeDiff, Nat.reduceAdd, Nat.reduceMul, Nat.reduceBEq, Int.reduceToNat, ld32, ld35, zc59, st59]
  refine call (kth_err b5.hn b5.hE b5.hlen b5.hI b5.hW b5.wl b5.wI b5.hlo b5.hhi b5.hd b5.err (wideN (-1))) ?_
  rintro r h6 ⟨hE6, rfl⟩
  have x6 : Ext h1 h6 := x5.trans hE6
  simp -dsimp (maxSteps := 1000000) (disch := first | omega | (simp only [new_n, put_n]; omega) | decide +kernel | (repeat first | rw [new_n] | rw [put_n])) only [wpS, wpT, Nat.reduceEqDiff, reduceIte, Nat.reduceLT, Nat.reduceLeDiff, Nat.reduceAdd, Nat.reduceMul, Nat.reduceBEq, Int.reduceToNat, ld32, ld35, zc59, st59]
  refine ⟨wpSteady_cons (wpSteady_one rfl rfl rfl rfl (steady_load (av := ptr (2 * h.n) 0) (v := .agg #[KI n, v]) rfl ?_ ?_)) (wpSteady_one rfl rfl rfl rfl (steady_load (av := ptr (2 * (h.n + 1)) 0) (v := .agg #[w, KI lo, KI hi, KI d]) rfl ?_ ?_)), ?_⟩
  · simp -dsimp (maxSteps := 1000000) (disch := first | omega | (simp only [new_n, put_n]; omega) | decide +kernel | (repeat first | rw [new_n] | rw [put_n])) only [wpS, wpT, Nat.reduceEqDiff, reduceIte, Nat.reduceLT, Nat.reduceLeDiff, Nat.reduceAdd, Nat.reduceMul, Nat.reduceBEq, Int.reduceToNat, ld32, ld35, zc59, st59, r0d, tk2]
  · simp -dsimp (maxSteps := 1000000) (disch := first | omega | (simp only [new_n, put_n]; omega) | decide +kernel | (repeat first | rw [new_n] | rw [put_n])) only [wpS, wpT, Nat.reduceEqDiff, reduceIte, Nat.reduceLT, Nat.reduceLeDiff, Nat.reduceAdd, Nat.reduceMul, Nat.reduceBEq, Int.reduceToNat, ld32, ld35, zc59, st59, r0e, tk2]
  · simp -dsimp (maxSteps := 1000000) (disch := first | omega | (simp only [new_n, put_n]; omega) | decide +kernel | (repeat first | rw [new_n] | rw [put_n])) only [wpS, wpT, Nat.reduceEqDiff, reduceIte, Nat.reduceLT, Nat.reduceLeDiff, Nat.reduceAdd, Nat.reduceMul, Nat.reduceBEq, Int.reduceToNat, ld32, ld35, zc59, st59, r1d, tk4]
  · simp -dsimp (maxSteps := 1000000) (disch := first | omega | (simp only [new_n, put_n]; omega) | decide +kernel | (repeat first | rw [new_n] | rw [put_n])) only [wpS, wpT, Nat.reduceEqDiff, reduceIte, Nat.reduceLT, Nat.reduceLeDiff, Nat.reduceAdd, Nat.reduceMul, Nat.reduceBEq, Int.reduceToNat, ld32, ld35, zc59, st59, r1e, tk4]
  have r0f : h6.row (2 * h.n) = some [KI n, v] := by rw [x6.row (.inr (by omega))]; exact r0
  have r1f : h6.row (2 * (h.n + 1)) = some [w, KI lo, KI hi, KI d] := by rw [x6.row (.inr (by omega))]; exact r1
  have b6 := b1.keep x6.keep
  simp -dsimp (maxSteps := 1000000) (disch := first | omega | (simp only [new_n, put_n]; omega) | decide +kernel | (repeat first | rw [new_n] | rw [put_n])) only [wpS, wpT, Nat.reduceEqDiff, reduceIte, Nat.reduceLT, Nat.reduceLeDiff, Nat.reduceAdd, Nat.reduceMul, Nat.reduceBEq, Int.reduceToNat, ld32, ld35, zc59, st59, r0f, r1f, tk2, tk4]
  refine call (index_err b6.hn b6.hE b6.hlen b6.hI b6.hW b6.wl b6.wI b6.hlo b6.hhi b6.hd b6.err) ?_
  rintro r h7 ⟨hE7, rfl⟩
  simp -dsimp (maxSteps := 1000000) (disch := first | omega | (simp only [new_n, put_n]; omega) | decide +kernel | (repeat first | rw [new_n] | rw [put_n])) only [wpS, wpT, Nat.reduceEqDiff, reduceIte, Nat.reduceLT, Nat.reduceLeDiff, Nat.reduceAdd, Nat.reduceMul, Nat.reduceBEq, Int.reduceToNat, ld32, ld35, zc59, st59, wdV_form, wdC_len, wdC_all, hspl, wd_take]
  have eB : Ext h7 ((h7.new (.cells [.int .u64 0, .int .u64 0, .int .u64 0, .int .u64 0, .int .u64 0, .int .u64 0, .int .u64 0, .int .u64 0] 0 none)).put h7.n (.cells (wdC 0) 0 none)) := ((Ext.refl h7).new _).put (Nat.le_refl _) _
  generalize ((h7.new (.cells [.int .u64 0, .int .u64 0, .int .u64 0, .int .u64 0, .int .u64 0, .int .u64 0, .int .u64 0, .int .u64 0] 0 none)).put h7.n (.cells (wdC 0) 0 none)) = h8 at *
  have x8 : Ext h1 h8 := (x6.trans hE7).trans eB
  have r0g : h8.row (2 * h.n) = some [KI n, v] := by rw [x8.row (.inr (by omega))]; exact r0
  have r1g : h8.row (2 * (h.n + 1)) = some [w, KI lo, KI hi, KI d] := by rw [x8.row (.inr (by omega))]; exact r1
  have b8 := b1.keep x8.keep
  simp -dsimp (maxSteps := 1000000) (disch := first | omega | (simp only [new_n, put_n]; omega) | decide +kernel | (repeat first | rw [new_n] | rw [put_n])) only [wpS, wpT, Nat.reduceEqDiff, reduceIte, Nat.reduceLT, Nat.reduceLeDiff, Nat.reduceAdd, Nat.reduceMul, Nat.reduceBEq, Int.reduceToNat, ld32, ld35, zc59, st59, r0g, r1g, tk2, tk4]
  refine call (enCheck_ok b8.hn b8.hE b8.hlen b8.hI b8.hW b8.wl b8.wI b8.hlo b8.hhi b8.hd) ?_
  rintro r h9 ⟨hE9, rfl⟩
  simp -dsimp (maxSteps := 1000000) (disch := first | omega | (simp only [new_n, put_n]; omega) | decide +kernel | (repeat first | rw [new_n] | rw [put_n])) only [wpS, wpT, Nat.reduceEqDiff, reduceIte, Nat.reduceLT, Nat.reduceLeDiff, Nat.reduceAdd, Nat.reduceMul, Nat.reduceBEq, Int.reduceToNat, ld32, ld35, zc59, st59, beq_self_eq_true]
  exact ((e0 _ _).trans hE1).trans (x8.trans hE9)
theorem ones_own {h : IH} (n : Nat) (lo hi d : Int) (hn : n ≤ 1000) : WV Proofs.Tryd.prog (.func (.func 21) #[] #[]) [KI n, KI lo, KI hi, KI d] h fun r h' => Ext h h' ∧ ∃ b, h.n ≤ b ∧ b < h'.n ∧ r = .agg #[.slice (some ⟨2 * b, 0, none⟩) n (2 * n + 1), KI lo, KI hi, KI d] ∧ h'.ext.get b = some (.cells (List.replicate n (KI 1)) 1 none) := by
  refine enter (nt := 16) (rs := [.cell 8 35]) Proofs.Tryd.func21 rfl rfl rfl (by simp) ?_
  simp -dsimp (maxSteps := 1000000) (disch := first | omega | (simp only [new_n, put_n]; omega) | decide +kernel | (repeat first | rw [new_n] | rw [put_n])) only [wpS, wpT, Nat.reduceEqDiff, reduceIte, Nat.reduceLT, Nat.reduceLeDiff, Nat.reduceAdd, Nat.reduceMul, Nat.reduceBEq, Int.reduceToNat, zc35, bs33, bv35, pl35_0, pl35_1, pl35_2, pl35_3, st35, ld35]
  have e0 : ∀ o1 o2, Ext h ((h.new o1).new o2) := fun o1 o2 => ((Ext.refl h).new _).new _
  refine call (repeat_own 1 (sl_block (k := h.n + 1) (f := none) (cs := [KI 1]) ?_ (by simp only [new_n]; omega) (by decide) rfl (by decide) (by decide)) n (by omega)) ?_
  · simp (disch := first | omega | (simp only [new_n, put_n]; omega) | (repeat first | rw [new_n] | rw [put_n])) only [get_new_same, get_new_old, get_put_same, get_put_old]
  rintro r h1 ⟨hE1, b, hb1, hb2, rfl, hb3⟩
  have hb4 : h.n + 2 ≤ b := hb1
  have hg : h1.ext.get h.n = some (.cells [.slice none 0 0, .int .i64 0, .int .i64 0, .int .i64 0] 0 none) := by
    rw [hE1.get _ (by simp only [new_n]; omega)]; simp (disch := first | omega | (simp only [new_n, put_n]; omega) | (repeat first | rw [new_n] | rw [put_n])) only [get_new_same, get_new_old, get_put_same, get_put_old]
  simp -dsimp (maxSteps := 1000000) (disch := first | omega | (simp only [new_n, put_n]; omega) | decide +kernel | (repeat first | rw [new_n] | rw [put_n])) only [wpS, wpT, Nat.reduceEqDiff, reduceIte, Nat.reduceLT, Nat.reduceLeDiff, Nat.reduceAdd, Nat.reduceMul, Nat.reduceBEq, Int.reduceToNat, zc35, bs33, bv35, pl35_0, pl35_1, pl35_2, pl35_3, st35, ld35, hg]
  exact ⟨((e0 _ _).trans hE1).put (by omega) _, b, by omega, hb2, rfl, by rw [get_put_old _ _ (by omega)]; exact hb3⟩
/-- How many nodes, as math/bits reckons it. -/
def oc1 (x : Nat) : Nat := (nshr x 1 &&& 6148914691236517205) + (x &&& 6148914691236517205)
def oc2 (x : Nat) : Nat := (nshr x 2 &&& 3689348814741910323) + (x &&& 3689348814741910323)
def oc3 (x : Nat) : Nat := (nshr x 4 + x) &&& 1085102592571150095
def oc4 (k x : Nat) : Nat := x + nshr x k
def oc (x : Nat) : Nat := oc4 32 (oc4 16 (oc4 8 (oc3 (oc2 (oc1 x))))) &&& 127
theorem onesCount_ok {h : IH} (x : Nat) (hx : x < 4294967296) : WV Proofs.Tryd.prog (.func (.func 31) #[] #[]) [K64 x] h fun r h' => h' = h ∧ r = KI (oc x) := by
  have a1 : oc1 x ≤ 8589934592 := by unfold oc1; have h1 := nshr_le x 1; have h2 : nshr x 1 &&& 6148914691236517205 ≤ nshr x 1 := Nat.and_le_left; have h3 : x &&& 6148914691236517205 ≤ x := Nat.and_le_left; omega
  have a2 : oc2 (oc1 x) ≤ 17179869184 := by unfold oc2; have h1 := nshr_le (oc1 x) 2; have h2 : nshr (oc1 x) 2 &&& 3689348814741910323 ≤ nshr (oc1 x) 2 := Nat.and_le_left; have h3 : oc1 x &&& 3689348814741910323 ≤ oc1 x := Nat.and_le_left; omega
  have a3 : oc3 (oc2 (oc1 x)) ≤ 34359738368 := by unfold oc3; have h1 := nshr_le (oc2 (oc1 x)) 4; have h2 : nshr (oc2 (oc1 x)) 4 + oc2 (oc1 x) &&& 1085102592571150095 ≤ nshr (oc2 (oc1 x)) 4 + oc2 (oc1 x) := Nat.and_le_left; omega
  have a4 : oc4 8 (oc3 (oc2 (oc1 x))) ≤ 68719476736 := by unfold oc4; have h1 := nshr_le (oc3 (oc2 (oc1 x))) 8; omega
  have a5 : oc4 16 (oc4 8 (oc3 (oc2 (oc1 x)))) ≤ 137438953472 := by
    have h1 := nshr_le (oc4 8 (oc3 (oc2 (oc1 x)))) 16
    show oc4 8 (oc3 (oc2 (oc1 x))) + _ ≤ _; omega
  have a6 : oc4 32 (oc4 16 (oc4 8 (oc3 (oc2 (oc1 x))))) ≤ 274877906944 := by
    have h1 := nshr_le (oc4 16 (oc4 8 (oc3 (oc2 (oc1 x))))) 32
    show oc4 16 (oc4 8 (oc3 (oc2 (oc1 x)))) + _ ≤ _; omega
  have b0 := nshr_le x 1
  have e1 : ((nshr x 1 &&& 6148914691236517205 : Nat) : Int) + ((x &&& 6148914691236517205 : Nat) : Int) = ((oc1 x : Nat) : Int) := by unfold oc1; omega
  have e2 : ((nshr (oc1 x) 2 &&& 3689348814741910323 : Nat) : Int) + ((oc1 x &&& 3689348814741910323 : Nat) : Int) = ((oc2 (oc1 x) : Nat) : Int) := by unfold oc2; omega
  have b1 := nshr_le (oc1 x) 2
  have b2 := nshr_le (oc2 (oc1 x)) 4
  have b3 := nshr_le (oc3 (oc2 (oc1 x))) 8
  have b4 := nshr_le (oc4 8 (oc3 (oc2 (oc1 x)))) 16
  have b5 := nshr_le (oc4 16 (oc4 8 (oc3 (oc2 (oc1 x))))) 32
  have e3 : ((nshr (oc2 (oc1 x)) 4 : Nat) : Int) + ((oc2 (oc1 x) : Nat) : Int) = ((nshr (oc2 (oc1 x)) 4 + oc2 (oc1 x) : Nat) : Int) := by omega
  have e3' : (nshr (oc2 (oc1 x)) 4 + oc2 (oc1 x) &&& 1085102592571150095) = oc3 (oc2 (oc1 x)) := rfl
  have e4 : ((oc3 (oc2 (oc1 x)) : Nat) : Int) + ((nshr (oc3 (oc2 (oc1 x))) 8 : Nat) : Int) = ((oc4 8 (oc3 (oc2 (oc1 x))) : Nat) : Int) := by unfold oc4; omega
  have e5 : ((oc4 8 (oc3 (oc2 (oc1 x))) : Nat) : Int) + ((nshr (oc4 8 (oc3 (oc2 (oc1 x)))) 16 : Nat) : Int) = ((oc4 16 (oc4 8 (oc3 (oc2 (oc1 x)))) : Nat) : Int) := by rw [show oc4 16 (oc4 8 (oc3 (oc2 (oc1 x)))) = oc4 8 (oc3 (oc2 (oc1 x))) + nshr (oc4 8 (oc3 (oc2 (oc1 x)))) 16 from rfl]; omega
  have e6 : ((oc4 16 (oc4 8 (oc3 (oc2 (oc1 x)))) : Nat) : Int) + ((nshr (oc4 16 (oc4 8 (oc3 (oc2 (oc1 x))))) 32 : Nat) : Int) = ((oc4 32 (oc4 16 (oc4 8 (oc3 (oc2 (oc1 x))))) : Nat) : Int) := by rw [show oc4 32 (oc4 16 (oc4 8 (oc3 (oc2 (oc1 x))))) = oc4 16 (oc4 8 (oc3 (oc2 (oc1 x)))) + nshr (oc4 16 (oc4 8 (oc3 (oc2 (oc1 x))))) 32 from rfl]; omega
  refine enter (nt := 35) (rs := [.tmp 2]) Proofs.Tryd.func31 rfl rfl rfl (by simp) ?_
  simp -dsimp (maxSteps := 1000000) (disch := first | omega | (simp only [new_n, put_n]; omega) | decide +kernel | (repeat first | rw [new_n] | rw [put_n])) only [wpS, wpT, Nat.reduceEqDiff, reduceIte, Nat.reduceLT, Nat.reduceLeDiff, Nat.reduceAdd, Nat.reduceMul, Nat.reduceBEq, Int.reduceToNat, cv47_3, e1]
  simp -dsimp (maxSteps := 1000000) (disch := first | omega | (simp only [new_n, put_n]; omega) | decide +kernel | (repeat first | rw [new_n] | rw [put_n])) only [wpS, wpT, Nat.reduceEqDiff, reduceIte, Nat.reduceLT, Nat.reduceLeDiff, Nat.reduceAdd, Nat.reduceMul, Nat.reduceBEq, Int.reduceToNat, cv47_3, e2]
  simp -dsimp (maxSteps := 1000000) (disch := first | omega | (simp only [new_n, put_n]; omega) | decide +kernel | (repeat first | rw [new_n] | rw [put_n])) only [wpS, wpT, Nat.reduceEqDiff, reduceIte, Nat.reduceLT, Nat.reduceLeDiff, Nat.reduceAdd, Nat.reduceMul, Nat.reduceBEq, Int.reduceToNat, cv47_3, e3, e3']
  simp -dsimp (maxSteps := 1000000) (disch := first | omega | (simp only [new_n, put_n]; omega) | decide +kernel | (repeat first | rw [new_n] | rw [put_n])) only [wpS, wpT, Nat.reduceEqDiff, reduceIte, Nat.reduceLT, Nat.reduceLeDiff, Nat.reduceAdd, Nat.reduceMul, Nat.reduceBEq, Int.reduceToNat, cv47_3, e4]
  simp -dsimp (maxSteps := 1000000) (disch := first | omega | (simp only [new_n, put_n]; omega) | decide +kernel | (repeat first | rw [new_n] | rw [put_n])) only [wpS, wpT, Nat.reduceEqDiff, reduceIte, Nat.reduceLT, Nat.reduceLeDiff, Nat.reduceAdd, Nat.reduceMul, Nat.reduceBEq, Int.reduceToNat, cv47_3, e5]
  simp -dsimp (maxSteps := 1000000) (disch := first | omega | (simp only [new_n, put_n]; omega) | decide +kernel | (repeat first | rw [new_n] | rw [put_n])) only [wpS, wpT, Nat.reduceEqDiff, reduceIte, Nat.reduceLT, Nat.reduceLeDiff, Nat.reduceAdd, Nat.reduceMul, Nat.reduceBEq, Int.reduceToNat, cv47_3, e6]
  rfl
end Go.Id
