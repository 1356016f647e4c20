/-
  Contracts: the reference's long integers, seventh part: written, made of integers, read as integers. Contracts: the reference's long integers, eighth part: what the chapter names. Contracts: the reference's long integers, ninth part: read as integers. Contracts: wide integers of the program: from and to integers. Contracts: Go's package math/bits; slices.Repeat of one element. The rows' common part: the listed table, the drafts, the start.
-/
import Derived.Test.YtcmfdbjgimekbaaDoorEnumeratePartsAi
import Derived.Test.YtcmfdbjgimekbaaDoorEnumeratePartsAh
import Derived.Test.YtcmfdbjgimekbaaDoorEnumeratePartsAg
import Derived.Test.YtcmfdbjgimekbaaDoorCards
import Derived.Test.YtcmfdbjgimekbaaDoorTie
import Derived.ProofKit
import Derived.LaidMore
import Derived.MakeChecks
import Derived.Stop.Joined
import Derived.SevenTiedAt
set_option linter.unusedVariables false
set_option linter.unusedSimpArgs false
set_option linter.defProp false
set_option linter.deprecated false
/-! Contracts: the reference's long integers, seventh part: written, made of integers, read as integers. -/
namespace Go.Id
open Go

/-- Is the integer a wide one? -/
def InW (z : Int) : Prop := -(H8 : Int) ≤ z ∧ z < H8
instance (z : Int) : Decidable (InW z) := inferInstanceAs (Decidable (_ ∧ _))
/-- The words of a wide integer, as one number. -/
def wideN (z : Int) : Nat := if 0 ≤ z then z.toNat else W8 - z.natAbs
theorem wideN_lt {z : Int} (h : InW z) : wideN z < W8 := by
  have := W8_two
  unfold InW at h
  unfold wideN
  split <;> omega
theorem wdI_wideN {z : Int} (h : InW z) : wdI (wideN z) = z := by
  have := W8_two
  unfold InW at h
  unfold wdI wideN
  split
  · rw [if_pos (by omega)]; omega
  · rw [if_neg (by omega)]; omega
abbrev wideV (z : Int) : Value := wdV (wideN z)
abbrev ZW : Value := .int .u64 0
theorem wdC_zero : wdC 0 = [ZW, ZW, ZW, ZW, ZW, ZW, ZW, ZW] := by
  simp [wdC, wrd, List.range_succ]
theorem lim_val : valD [0, 0, 0, 0, 0, 0, 0, 0, 0, 0, 0, 0, 0, 0, 0, 2147483648] = H8 := by rw [H8_dig]; simp [valD, valT]
theorem big_val : valD [0, 0, 0, 0, 0, 0, 0, 0, 0, 0, 0, 0, 0, 0, 0, 0, 1] = W8 := by rw [W8_dig]; simp [valD, valT]
theorem wdC_set {n i x : Nat} (hi : i < 8) (hn : n < 18446744073709551616 ^ (i + 1)) (hx : wrd n i + x < 18446744073709551616) : (wdC n).set i (K64 (wrd n i + x)) = wdC (n + x * 18446744073709551616 ^ i) := by
  apply List.ext_getElem?
  intro j
  rw [List.getElem?_set]
  by_cases hij : i = j
  · subst hij
    rw [if_pos rfl, wdC_get _ _ hi, wdC_len, if_pos hi, wrd_add_at hn hx]
  · rw [if_neg hij]
    by_cases hj : j < 8
    · rw [wdC_get _ _ hj, wdC_get _ _ hj]
      by_cases hlt : j < i
      · rw [wrd_add_low hlt]
      · rw [wrd_high hn (by omega), wrd_high (add_at_lt hn hx) (by omega)]
    · rw [List.getElem?_eq_none (by rw [wdC_len]; omega), List.getElem?_eq_none (by rw [wdC_len]; omega)]
set_option maxHeartbeats 2000000 in
set_option maxRecDepth 100000 in
theorem out_ok {h : IH} {v : Value} {z : Int} (hv : LongIs h v z) :
    WV Proofs.Tryd.prog (.func (.func 57) #[] #[]) [v] h fun r h' => Ext h h' ∧ r = if InW z then .tuple #[wideV z, KI 0] else .tuple #[wdV 0, KI 6] := by
  obtain ⟨s, rfl, ds, hD, hN, hx⟩ := hv
  have hl := hD.2.2
  refine enter (nt := 63) (rs := [.cell 2 59, .tmp 3]) Proofs.Tryd.func57 rfl rfl rfl (by simp) ?_
  simp -dsimp (maxSteps := 1000000) (disch := first | omega | (simp only [new_n, put_n]; omega) | decide +kernel | (repeat first | rw [new_n] | rw [put_n])) only [wpS, wpT, Nat.reduceEqDiff, reduceIte, Nat.reduceLT, Nat.reduceLeDiff, Nat.reduceAdd, Nat.reduceMul, Nat.reduceBEq, Int.reduceToNat, zc59, ms33, es33, st3, fa110_1, ld33, fa110_0, ld4, bv59, st59, ar59, ld47, ld3, cv3_47, st47, ld59, ln33, hD.1.cells, show idxAt 15 16 = some 15 from rfl]
  have hL : DigU ((((h.new (.cells [.bool (decide (z < 0)), s] 0 none)).new (.cells [ZW, ZW, ZW, ZW, ZW, ZW, ZW, ZW] 0 none)).new (.cells (List.map KN [0, 0, 0, 0, 0, 0, 0, 0, 0, 0, 0, 0, 0, 0, 0, 0]) 1 none)).put (h.n + 1 + 1) (.cells (List.map KN [0, 0, 0, 0, 0, 0, 0, 0, 0, 0, 0, 0, 0, 0, 0, 2147483648]) 1 none)) (.slice (some ⟨2 * (h.n + 1 + 1), 0, none⟩) 16 33) [0, 0, 0, 0, 0, 0, 0, 0, 0, 0, 0, 0, 0, 0, 0, 2147483648] :=
    ⟨sl_block (f := none) (get_put_same _ _ rfl) (by simp) (by omega) rfl (by omega) (by simp), by intro d hd; simp at hd; omega, by simp⟩
  have hE : ∀ a b c d : IObj, Ext h ((((h.new a).new b).new c).put (h.n + 1 + 1) d) := fun a b c d => ((((Ext.refl h).new _).new _).new _).put (by omega) _
  refine call (order_ok (hD.keep (hE _ _ _ _).keep) hL hN (.inr (by simp))) ?_
  rintro r h1 ⟨e1, c, rfl, hc1, hc2, hc3, hc4⟩
  have g1 : h1.row (2 * h.n) = some [.bool (decide (z < 0)), s] := by rw [e1]; simp -dsimp (maxSteps := 1000000) (disch := first | omega | (simp only [new_n, put_n]; omega) | decide +kernel | (repeat first | rw [new_n] | rw [put_n])) only [wpS, wpT, Nat.reduceEqDiff, reduceIte, Nat.reduceLT, Nat.reduceLeDiff, Nat.reduceAdd, Nat.reduceMul, Nat.reduceBEq, Int.reduceToNat, zc59, ms33, es33, st3, fa110_1, ld33, fa110_0, ld4, bv59, st59, ar59, ld47, ld3, cv3_47, st47, ld59, ln33]
  have g2 : h1.ext.get (h.n + 1) = some (.cells [ZW, ZW, ZW, ZW, ZW, ZW, ZW, ZW] 0 none) := by rw [e1]; simp -dsimp (maxSteps := 1000000) (disch := first | omega | (simp only [new_n, put_n]; omega) | decide +kernel | (repeat first | rw [new_n] | rw [put_n])) only [wpS, wpT, Nat.reduceEqDiff, reduceIte, Nat.reduceLT, Nat.reduceLeDiff, Nat.reduceAdd, Nat.reduceMul, Nat.reduceBEq, Int.reduceToNat, zc59, ms33, es33, st3, fa110_1, ld33, fa110_0, ld4, bv59, st59, ar59, ld47, ld3, cv3_47, st47, ld59, ln33]
  have g3 : Ext h h1 := by rw [e1]; exact hE _ _ _ _
  have g4 : h.n + 1 < h1.n := by rw [e1]; simp
  clear e1 hL hE
  rw [lim_val, hx] at hc1 hc2
  have hW8 := W8_two
  by_cases hW : InW z
  · have hc : c < 0 ∨ c = 0 ∧ z < 0 := by unfold InW at hW; omega
    simp -dsimp (maxSteps := 1000000) (disch := first | omega | (simp only [new_n, put_n]; omega) | decide +kernel | (repeat first | rw [new_n] | rw [put_n])) only [wpR, wpT, Nat.reduceEqDiff, reduceIte, Nat.reduceLT, Nat.reduceLeDiff, Nat.reduceAdd, Nat.reduceMul, Nat.reduceBEq, Int.reduceToNat, zc59, ms33, es33, st3, fa110_1, ld33, fa110_0, ld4, bv59, st59, ar59, ld47, ld3, cv3_47, st47, ld59, ln33]
    rw [d_seq]
    refine cut (fun fr2 h2 => h2 = h1 ∧ fget fr2 2 = some (ptr (2 * (h.n + 1)) 0) ∧ fget fr2 1 = some (ptr (2 * h.n) 0)) ?_ ?_
    · rcases hc with hc | ⟨rfl, hz⟩
      · simp -dsimp (maxSteps := 1000000) (disch := first | omega | (simp only [new_n, put_n]; omega) | decide +kernel | (repeat first | rw [new_n] | rw [put_n])) only [wpS, wpT, Nat.reduceEqDiff, reduceIte, Nat.reduceLT, Nat.reduceLeDiff, Nat.reduceAdd, Nat.reduceMul, Nat.reduceBEq, Int.reduceToNat, zc59, ms33, es33, st3, fa110_1, ld33, fa110_0, ld4, bv59, st59, ar59, ld47, ld3, cv3_47, st47, ld59, ln33, g1]
        exact ⟨rfl, by simp, by simp⟩
      · simp -dsimp (maxSteps := 1000000) (disch := first | omega | (simp only [new_n, put_n]; omega) | decide +kernel | (repeat first | rw [new_n] | rw [put_n])) only [wpS, wpT, Nat.reduceEqDiff, reduceIte, Nat.reduceLT, Nat.reduceLeDiff, Nat.reduceAdd, Nat.reduceMul, Nat.reduceBEq, Int.reduceToNat, zc59, ms33, es33, st3, fa110_1, ld33, fa110_0, ld4, bv59, st59, ar59, ld47, ld3, cv3_47, st47, ld59, ln33, g1, dec_lt_t hz]
        exact ⟨rfl, by simp, by simp⟩
    · rintro fr2 h2 ⟨rfl, f2, f1⟩
      simp -dsimp (maxSteps := 1000000) (disch := first | omega | (simp only [new_n, put_n]; omega) | decide +kernel | (repeat first | rw [new_n] | rw [put_n])) only [wpS, wpT, Nat.reduceEqDiff, reduceIte, Nat.reduceLT, Nat.reduceLeDiff, Nat.reduceAdd, Nat.reduceMul, Nat.reduceBEq, Int.reduceToNat, zc59, ms33, es33, st3, fa110_1, ld33, fa110_0, ld4, bv59, st59, ar59, ld47, ld3, cv3_47, st47, ld59, ln33, g1, f1, f2]
      refine bq_cut (fun fr3 h3 => fget fr3 2 = some (ptr (2 * (h.n + 1)) 0) ∧ Ext h2 h3 ∧ ∃ d ds2, fget fr3 6 = some d ∧ DigU h3 d ds2 ∧ valD ds2 = wideN z ∧ ds2.length ≤ 16) (fun hz => ?_) (fun hz => ?_) ?_
      · simp only [bne_iff_ne, beq_iff_eq, decide_eq_true_eq, decide_eq_false_iff_not, bne_eq_false_iff_eq, beq_eq_false_iff_ne, ne_eq, Bool.not_eq_true', Bool.not_eq_false', Bool.not_eq_true, Bool.not_eq_false, Decidable.not_not, Bool.not_not] at hz
        simp -dsimp (maxSteps := 1000000) (disch := first | omega | (simp only [new_n, put_n]; omega) | decide +kernel | (repeat first | rw [new_n] | rw [put_n])) only [wpS, wpT, Nat.reduceEqDiff, reduceIte, Nat.reduceLT, Nat.reduceLeDiff, Nat.reduceAdd, Nat.reduceMul, Nat.reduceBEq, Int.reduceToNat, zc59, ms33, es33, st3, fa110_1, ld33, fa110_0, ld4, bv59, st59, ar59, ld47, ld3, cv3_47, st47, ld59, ln33, show idxAt 16 17 = some 16 from rfl]
        have hE3 : ∀ a b : IObj, Ext h2 ((h2.new a).put h2.n b) := fun a b => ((Ext.refl h2).new _).put (Nat.le_refl _) _
        have hWW : DigU ((h2.new (.cells (List.map KN [0, 0, 0, 0, 0, 0, 0, 0, 0, 0, 0, 0, 0, 0, 0, 0, 0]) 1 none)).put h2.n (.cells (List.map KN [0, 0, 0, 0, 0, 0, 0, 0, 0, 0, 0, 0, 0, 0, 0, 0, 1]) 1 none)) (.slice (some ⟨2 * h2.n, 0, none⟩) 17 35) [0, 0, 0, 0, 0, 0, 0, 0, 0, 0, 0, 0, 0, 0, 0, 0, 1] :=
          ⟨sl_block (f := none) (get_put_same _ _ rfl) (by simp) (by omega) rfl (by omega) (by simp), by intro d hd; simp at hd; omega, by simp⟩
        refine call (less_ok hWW (hD.keep (g3.trans (hE3 _ _)).keep) hN (by rw [big_val, hx]; unfold InW at hW; omega)) ?_
        rintro e h3 ⟨hE4, es, hDe, hNe, hve⟩
        rw [big_val, hx] at hve
        have hv2 : valD es = wideN z := by rw [hve, wideN, if_neg (by omega)]
        simp -dsimp (maxSteps := 1000000) (disch := first | omega | (simp only [new_n, put_n]; omega) | decide +kernel | (repeat first | rw [new_n] | rw [put_n])) only [wpS, wpT, Nat.reduceEqDiff, reduceIte, Nat.reduceLT, Nat.reduceLeDiff, Nat.reduceAdd, Nat.reduceMul, Nat.reduceBEq, Int.reduceToNat, zc59, ms33, es33, st3, fa110_1, ld33, fa110_0, ld4, bv59, st59, ar59, ld47, ld3, cv3_47, st47, ld59, ln33]
        refine ⟨by simp [f2], (hE3 _ _).trans hE4, e, es, by simp, hDe, hv2, ?_⟩
        have h5 := wideN_lt hW
        rw [← hv2, W8_dig] at h5
        by_cases hne : es = []
        · subst hne; simp
        · have h6 := hNe.ge hne
          have h7 := (Nat.pow_lt_pow_iff_right (a := 4294967296) (by omega)).1 (Nat.lt_of_le_of_lt h6 h5)
          omega
      · simp only [bne_iff_ne, beq_iff_eq, decide_eq_true_eq, decide_eq_false_iff_not, bne_eq_false_iff_eq, beq_eq_false_iff_ne, ne_eq, Bool.not_eq_true', Bool.not_eq_false', Bool.not_eq_true, Bool.not_eq_false, Decidable.not_not, Bool.not_not] at hz
        simp -dsimp (maxSteps := 1000000) (disch := first | omega | (simp only [new_n, put_n]; omega) | decide +kernel | (repeat first | rw [new_n] | rw [put_n])) only [wpS, wpT, Nat.reduceEqDiff, reduceIte, Nat.reduceLT, Nat.reduceLeDiff, Nat.reduceAdd, Nat.reduceMul, Nat.reduceBEq, Int.reduceToNat, zc59, ms33, es33, st3, fa110_1, ld33, fa110_0, ld4, bv59, st59, ar59, ld47, ld3, cv3_47, st47, ld59, ln33]
        have hv2 : valD ds = wideN z := by rw [hx, wideN, if_pos (by omega)]; omega
        refine ⟨by simp [f2], Ext.refl _, s, ds, by simp, hD.keep g3.keep, hv2, ?_⟩
        have h5 := wideN_lt hW
        rw [← hv2, W8_dig] at h5
        by_cases hne : ds = []
        · subst hne; simp
        · have h6 := hN.ge hne
          have h7 := (Nat.pow_lt_pow_iff_right (a := 4294967296) (by omega)).1 (Nat.lt_of_le_of_lt h6 h5)
          omega
      · rintro fr3 h3 ⟨f2, hE3, d, ds2, f6, hD2, hv2, hl2⟩
        simp -dsimp (maxSteps := 1000000) (disch := first | omega | (simp only [new_n, put_n]; omega) | decide +kernel | (repeat first | rw [new_n] | rw [put_n])) only [wpS, wpT, Nat.reduceEqDiff, reduceIte, Nat.reduceLT, Nat.reduceLeDiff, Nat.reduceAdd, Nat.reduceMul, Nat.reduceBEq, Int.reduceToNat, zc59, ms33, es33, st3, fa110_1, ld33, fa110_0, ld4, bv59, st59, ar59, ld47, ld3, cv3_47, st47, ld59, ln33]
        have hlen := hD2.2.2
        refine loop (fun m fr h4 => ∃ i : Nat, i + m = ds2.length ∧ fget fr 2 = some (ptr (2 * (h.n + 1)) 0) ∧ fget fr 6 = some d ∧ fget fr 8 = some (ptr (2 * h3.n) 0) ∧ fget fr 9 = some (KN i) ∧ h3.n < h4.n ∧ h4.ext.get h3.n = some (.cells (wdC (valT ds2 i)) 0 none) ∧ Ext h3 h4) ds2.length ⟨0, by simp, by simp [f2], by simp [f6], by simp, by simp, by simp, by rw [valT, wdC_zero]; exact get_new_same _ _ rfl, (Ext.refl h3).new _⟩ ?_
        rintro m fr h4 ⟨i, him, f2, f6, f8, f9, hn4, hg4, hE4⟩
        simp -dsimp (maxSteps := 1000000) (disch := first | omega | (simp only [new_n, put_n]; omega) | decide +kernel | (repeat first | rw [new_n] | rw [put_n])) only [wpS, wpT, Nat.reduceEqDiff, reduceIte, Nat.reduceLT, Nat.reduceLeDiff, Nat.reduceAdd, Nat.reduceMul, Nat.reduceBEq, Int.reduceToNat, zc59, ms33, es33, st3, fa110_1, ld33, fa110_0, ld4, bv59, st59, ar59, ld47, ld3, cv3_47, st47, ld59, ln33, f6, f9, hD2.1.len sl33]
        refine bq_intro ?_ ?_ <;> intro hc <;> simp only [bne_iff_ne, beq_iff_eq, decide_eq_true_eq, decide_eq_false_iff_not, bne_eq_false_iff_eq, beq_eq_false_iff_ne, ne_eq, Bool.not_eq_true', Bool.not_eq_false', Bool.not_eq_true, Bool.not_eq_false, Decidable.not_not, Bool.not_not] at hc
        · have hi : i < ds2.length := by omega
          have dd := getD_lt hD2.2.1 i
          have hvl := valT_lt hD2.2.1 i
          have hrow : h4.row (2 * h3.n) = some (wdC (valT ds2 i)) := by rw [row_even]; exact cells_of hg4
          have e1 : ((i : Int) / 2) = ((i / 2 : Nat) : Int) := by omega
          have hi8 : i / 2 < 8 := by omega
          obtain ⟨x, hsh, hx1, hx2⟩ : ∃ x : Nat, (∀ t o1 o2, binop Proofs.Tryd.prog .shl t o1 o2 (K64 (ds2.getD i 0)) (.int .i64 (32 * ((i : Int) % 2))) = some (K64 x)) ∧ valT ds2 (i + 1) = valT ds2 i + x * 18446744073709551616 ^ (i / 2) ∧ wrd (valT ds2 i) (i / 2) + x < 18446744073709551616 := by
            rcases Nat.mod_two_eq_zero_or_one i with hm | hm
            · obtain ⟨k, rfl⟩ : ∃ k, i = 2 * k := ⟨i / 2, by omega⟩
              have hk : 2 * k / 2 = k := by omega
              refine ⟨ds2.getD (2 * k) 0, fun t o1 o2 => ?_, ?_, ?_⟩
              · have e2 : (32 * (((2 * k : Nat) : Int) % 2)) = ((0 : Nat) : Int) := by omega
                rw [e2, shl_nat _ _ _ _ (by omega) (by omega)]; simp
              · rw [valT, hk, pow_two]
              · rw [hk, wrd_high (by rw [← pow_two]; exact hvl) (Nat.le_refl _)]; omega
            · obtain ⟨k, rfl⟩ : ∃ k, i = 2 * k + 1 := ⟨i / 2, by omega⟩
              have hk : (2 * k + 1) / 2 = k := by omega
              refine ⟨ds2.getD (2 * k + 1) 0 * 4294967296, fun t o1 o2 => ?_, ?_, ?_⟩
              · have e2 : (32 * (((2 * k + 1 : Nat) : Int) % 2)) = ((32 : Nat) : Int) := by omega
                rw [e2, shl_nat _ _ _ _ (by omega) (by omega)]
              · rw [valT, hk, pow_odd]; grind
              · rw [hk]
                rw [pow_odd] at hvl
                have h8 : valT ds2 (2 * k + 1) / 18446744073709551616 ^ k < 4294967296 := by
                  rw [Nat.div_lt_iff_lt_mul (Nat.pow_pos (by omega))]; exact hvl
                have h9 : wrd (valT ds2 (2 * k + 1)) k ≤ valT ds2 (2 * k + 1) / 18446744073709551616 ^ k := Nat.mod_le _ _
                omega
          have hwl : valT ds2 i < 18446744073709551616 ^ (i / 2 + 1) := by
            have h8 : 4294967296 ^ i ≤ 4294967296 ^ (2 * (i / 2 + 1)) := Nat.pow_le_pow_right (by omega) (by omega)
            rw [pow_two] at h8
            omega
          have hset := wdC_set hi8 hwl hx2
          rw [← hx1] at hset
          have hspl : IH.splice (wdC (valT ds2 i)) (i / 2) [.int .u64 ((wrd (valT ds2 i) (i / 2) : Int) + (x : Int))] = wdC (valT ds2 (i + 1)) := by
            rw [splice_set (by rw [wdC_len]; exact hi8), ← hset]; rfl
          have hwr := wrd_lt (valT ds2 i) (i / 2)
          simp -dsimp (maxSteps := 1000000) (disch := first | omega | (simp only [new_n, put_n]; omega) | decide +kernel | (repeat first | rw [new_n] | rw [put_n])) only [wpS, wpT, Nat.reduceEqDiff, reduceIte, Nat.reduceLT, Nat.reduceLeDiff, Nat.reduceAdd, Nat.reduceMul, Nat.reduceBEq, Int.reduceToNat, zc59, ms33, es33, st3, fa110_1, ld33, fa110_0, ld4, bv59, st59, ar59, ld47, ld3, cv3_47, st47, ld59, ln33, f6, f8, f9, e1, ar59, hrow, wdC_get _ _ hi8, hD2.1.idx es33 hi, hD2.1.ld hE4.keep (P := Proofs.Tryd.prog) (t := 3) (c := i) (by simpa using hi) ag3, map_get, get_some hi, hsh, hg4, wdC_len, hspl]
          refine ⟨m - 1, by omega, i + 1, by omega, by simp [f2], by simp [f6], by simp [f8], by simp, by simpa using hn4, get_put_same _ _ rfl, hE4.put (Nat.le_refl _) _⟩
        · obtain rfl : i = ds2.length := by omega
          have hgz : h4.ext.get (h.n + 1) = some (.cells [ZW, ZW, ZW, ZW, ZW, ZW, ZW, ZW] 0 none) := by
            rw [hE4.get _ (by have := hE3.n; omega), hE3.get _ g4]; exact g2
          have hrow : h4.row (2 * h3.n) = some (wdC (wideN z)) := by rw [row_even, ← hv2]; exact cells_of hg4
          have hspl : IH.splice [ZW, ZW, ZW, ZW, ZW, ZW, ZW, ZW] 0 (wdC (wideN z)) = wdC (wideN z) := splice_all (by rw [wdC_len]; rfl)
          simp -dsimp (maxSteps := 1000000) (disch := first | omega | (simp only [new_n, put_n]; omega) | decide +kernel | (repeat first | rw [new_n] | rw [put_n])) only [wpS, wpT, Nat.reduceEqDiff, reduceIte, Nat.reduceLT, Nat.reduceLeDiff, Nat.reduceAdd, Nat.reduceMul, Nat.reduceBEq, Int.reduceToNat, zc59, ms33, es33, st3, fa110_1, ld33, fa110_0, ld4, bv59, st59, ar59, ld47, ld3, cv3_47, st47, ld59, ln33, f2, f8, hrow, hgz, wdC_len, wd_take, wdC_all, hspl]
          refine ⟨((g3.trans hE3).trans hE4).put (by omega) _, ?_⟩
          rw [if_pos hW]; rfl
  · have hc : 0 < c ∨ c = 0 ∧ ¬ z < 0 := by unfold InW at hW; omega
    rcases hc with hc | ⟨hc, hz⟩
    · simp -dsimp (maxSteps := 1000000) (disch := first | omega | (simp only [new_n, put_n]; omega) | decide +kernel | (repeat first | rw [new_n] | rw [put_n])) only [wpS, wpT, Nat.reduceEqDiff, reduceIte, Nat.reduceLT, Nat.reduceLeDiff, Nat.reduceAdd, Nat.reduceMul, Nat.reduceBEq, Int.reduceToNat, zc59, ms33, es33, st3, fa110_1, ld33, fa110_0, ld4, bv59, st59, ar59, ld47, ld3, cv3_47, st47, ld59, ln33, g1, g2]
      refine ⟨g3.put (by omega) _, ?_⟩
      rw [if_neg hW, wdV, wdC_zero]; rfl
    · subst hc
      simp -dsimp (maxSteps := 1000000) (disch := first | omega | (simp only [new_n, put_n]; omega) | decide +kernel | (repeat first | rw [new_n] | rw [put_n])) only [wpS, wpT, Nat.reduceEqDiff, reduceIte, Nat.reduceLT, Nat.reduceLeDiff, Nat.reduceAdd, Nat.reduceMul, Nat.reduceBEq, Int.reduceToNat, zc59, ms33, es33, st3, fa110_1, ld33, fa110_0, ld4, bv59, st59, ar59, ld47, ld3, cv3_47, st47, ld59, ln33, g1, g2, dec_lt_f hz]
      refine ⟨g3.put (by omega) _, ?_⟩
      rw [if_neg hW, wdV, wdC_zero]; rfl
end Go.Id

/-! Contracts: the reference's long integers, eighth part: what the chapter names. -/
namespace Go.Id
open Go

theorem wrapU (n : Int) : IntKind.u64.wrap n = n % 18446744073709551616 := by simp [IntKind.wrap, IntKind.bits, IntKind.signed]
theorem wdV_form (n : Nat) : (wdV n).cells.toList = wdC n := rfl
/-- An int. -/
abbrev In64 (n : Int) : Prop := -9223372036854775808 ≤ n ∧ n < 9223372036854775808
theorem pow_up (b : Nat) (hb : 0 < b) (m k : Nat) (h : m ≤ k) : b ^ m ≤ b ^ k := Nat.pow_le_pow_right hb h
theorem small64 {n : Int} (h : n.natAbs ≤ 18446744073709551616) : SmallI n := by
  have h1 := pow_up 4294967296 (by decide) 3 1000000 (by decide)
  have h2 : (4294967296 : Nat) ^ 3 = 79228162514264337593543950336 := by decide
  unfold SmallI Small
  refine Nat.lt_of_lt_of_le ?_ h1
  omega
theorem smallW {z : Int} (h : InW z) : SmallI z := by
  have h1 := pow_up 4294967296 (by decide) 16 1000000 (by decide)
  rw [← W8_dig] at h1
  have h2 := W8_two
  have h3 := H8_big
  unfold InW at h
  unfold SmallI Small
  refine Nat.lt_of_lt_of_le ?_ h1
  omega
set_option maxRecDepth 100000 in
theorem long1_ok {h : IH} (n : Int) (hn : In64 n) : WV Proofs.Tryd.prog (.func (.func 58) #[] #[]) [KI n] h fun r h' => Ext h h' ∧ LongIs h' r n := by
  have hB : ∃ u : Nat, u = n.natAbs := ⟨_, rfl⟩
  obtain ⟨u, hu⟩ := hB
  refine enter (nt := 21) (rs := [.cell 2 110]) Proofs.Tryd.func58 rfl rfl rfl (by simp) ?_
  simp -dsimp (maxSteps := 1000000) (disch := first | omega | (simp only [new_n, put_n]; omega) | decide +kernel | (repeat first | rw [new_n] | rw [put_n])) only [wpR, wpT, Nat.reduceEqDiff, reduceIte, Nat.reduceLT, Nat.reduceLeDiff, Nat.reduceAdd, Nat.reduceMul, Nat.reduceBEq, Int.reduceToNat, zc110, cv3_47, cv47_3, bs33, st110, ld110]
  rw [d_seq]
  simp -dsimp (maxSteps := 1000000) (disch := first | omega | (simp only [new_n, put_n]; omega) | decide +kernel | (repeat first | rw [new_n] | rw [put_n])) only [wpR, wpT, Nat.reduceEqDiff, reduceIte, Nat.reduceLT, Nat.reduceLeDiff, Nat.reduceAdd, Nat.reduceMul, Nat.reduceBEq, Int.reduceToNat, zc110, cv3_47, cv47_3, bs33, st110, ld110]
  rw [d_seq]
  simp -dsimp (maxSteps := 1000000) (disch := first | omega | (simp only [new_n, put_n]; omega) | decide +kernel | (repeat first | rw [new_n] | rw [put_n])) only [wpR, wpT, Nat.reduceEqDiff, reduceIte, Nat.reduceLT, Nat.reduceLeDiff, Nat.reduceAdd, Nat.reduceMul, Nat.reduceBEq, Int.reduceToNat, zc110, cv3_47, cv47_3, bs33, st110, ld110]
  rw [d_seq]
  simp -dsimp (maxSteps := 1000000) (disch := first | omega | (simp only [new_n, put_n]; omega) | decide +kernel | (repeat first | rw [new_n] | rw [put_n])) only [wpR, wpT, Nat.reduceEqDiff, reduceIte, Nat.reduceLT, Nat.reduceLeDiff, Nat.reduceAdd, Nat.reduceMul, Nat.reduceBEq, Int.reduceToNat, zc110, cv3_47, cv47_3, bs33, st110, ld110]
  rw [d_seq]
  refine cut (fun fr2 h2 => h2 = h.new (.cells [.bool false, .slice none 0 0] 0 none) ∧ fget fr2 2 = some (ptr (2 * h.n) 0) ∧ fget fr2 3 = some (.bool (decide (n < 0))) ∧ fget fr2 4 = some (K64 u)) ?_ ?_
  · by_cases hz : n < 0
    · have e1 : IntKind.u64.wrap n = n + 18446744073709551616 := by rw [wrapU]; omega
      have e2 : IntKind.u64.wrap (-(n + 18446744073709551616)) = (u : Int) := by rw [wrapU]; omega
      simp -dsimp (maxSteps := 1000000) (disch := first | omega | (simp only [new_n, put_n]; omega) | decide +kernel | (repeat first | rw [new_n] | rw [put_n])) only [wpS, wpT, Nat.reduceEqDiff, reduceIte, Nat.reduceLT, Nat.reduceLeDiff, Nat.reduceAdd, Nat.reduceMul, Nat.reduceBEq, Int.reduceToNat, zc110, cv3_47, cv47_3, bs33, st110, ld110, dec_lt_t hz, e1, e2]
      exact ⟨rfl, by simp, by simp [hz], by simp⟩
    · have e1 : n = (u : Int) := by omega
      simp -dsimp (maxSteps := 1000000) (disch := first | omega | (simp only [new_n, put_n]; omega) | decide +kernel | (repeat first | rw [new_n] | rw [put_n])) only [wpS, wpT, Nat.reduceEqDiff, reduceIte, Nat.reduceLT, Nat.reduceLeDiff, Nat.reduceAdd, Nat.reduceMul, Nat.reduceBEq, Int.reduceToNat, zc110, cv3_47, cv47_3, bs33, st110, ld110, dec_lt_f hz]
      exact ⟨rfl, by simp, by simp; omega, by simp; exact e1⟩
  · rintro fr2 h2 ⟨rfl, f2, f3, f4⟩
    have e1 : ((u : Int) % 4294967296) = ((u % 4294967296 : Nat) : Int) := by omega
    have e2 : ((u : Int) / 4294967296) = ((u / 4294967296 : Nat) : Int) := by omega
    simp -dsimp (maxSteps := 1000000) (disch := first | omega | (simp only [new_n, put_n]; omega) | decide +kernel | (repeat first | rw [new_n] | rw [put_n])) only [wpS, wpT, Nat.reduceEqDiff, reduceIte, Nat.reduceLT, Nat.reduceLeDiff, Nat.reduceAdd, Nat.reduceMul, Nat.reduceBEq, Int.reduceToNat, zc110, cv3_47, cv47_3, bs33, st110, ld110, f2, f3, f4, e1, e2]
    have hD : DigU ((h.new (.cells [.bool false, .slice none 0 0] 0 none)).new (.cells (List.map KN [u % 4294967296, u / 4294967296]) 1 none)) (.slice (some ⟨2 * (h.n + 1), 0, none⟩) 2 5) [u % 4294967296, u / 4294967296] :=
      ⟨sl_block (f := none) (get_new_same _ _ rfl) (by simp) (by omega) rfl (by omega) (by simp), by intro d hd; simp at hd; omega, by simp⟩
    refine call (made_ok hD _) ?_
    rintro r h1 ⟨hE, hr⟩
    have hz : (if decide (n < 0) = true then -(valD [u % 4294967296, u / 4294967296] : Int) else valD [u % 4294967296, u / 4294967296]) = n := by
      have : valD [u % 4294967296, u / 4294967296] = u := by simp [valD, valT]; omega
      rw [this]
      by_cases h0 : n < 0 <;> simp [h0] <;> omega
    rw [hz] at hr
    obtain ⟨s1, n3, rfl, c3, o3, l3, z3⟩ := hr.form
    have hg : h1.ext.get h.n = some (.cells [.bool false, .slice none 0 0] 0 none) := by
      rw [hE.get _ (by simp <;> omega)]; simp -dsimp (maxSteps := 1000000) (disch := first | omega | (simp only [new_n, put_n]; omega) | decide +kernel | (repeat first | rw [new_n] | rw [put_n])) only [wpS, wpT, Nat.reduceEqDiff, reduceIte, Nat.reduceLT, Nat.reduceLeDiff, Nat.reduceAdd, Nat.reduceMul, Nat.reduceBEq, Int.reduceToNat, zc110, cv3_47, cv47_3, bs33, st110, ld110]
    simp -dsimp (maxSteps := 1000000) (disch := first | omega | (simp only [new_n, put_n]; omega) | decide +kernel | (repeat first | rw [new_n] | rw [put_n])) only [wpS, wpT, Nat.reduceEqDiff, reduceIte, Nat.reduceLT, Nat.reduceLeDiff, Nat.reduceAdd, Nat.reduceMul, Nat.reduceBEq, Int.reduceToNat, zc110, cv3_47, cv47_3, bs33, st110, ld110, f2, hg, c3, o3]
    refine ⟨((((Ext.refl h).new _).new _).trans hE).put (by omega) _, ?_⟩
    exact hr.keep ((Keep.refl _).put hg _)
theorem refOf_ok {h : IH} (n : Int) (hn : In64 n) : WV Proofs.Tryd.prog (.func (.func 23) #[] #[]) [KI n] h fun r h' => Ext h h' ∧ r = wideV n := by
  refine enter (nt := 12) (rs := [.cell 2 59]) Proofs.Tryd.func23 rfl rfl rfl (by simp) ?_
  simp -dsimp (maxSteps := 1000000) (disch := first | omega | (simp only [new_n, put_n]; omega) | decide +kernel | (repeat first | rw [new_n] | rw [put_n])) only [wpS, wpT, Nat.reduceEqDiff, reduceIte, Nat.reduceLT, Nat.reduceLeDiff, Nat.reduceAdd, Nat.reduceMul, Nat.reduceBEq, Int.reduceToNat, zc59, st59, ld59]
  refine call (long1_ok n hn) ?_
  rintro r h1 ⟨hE, hr⟩
  simp -dsimp (maxSteps := 1000000) (disch := first | omega | (simp only [new_n, put_n]; omega) | decide +kernel | (repeat first | rw [new_n] | rw [put_n])) only [wpS, wpT, Nat.reduceEqDiff, reduceIte, Nat.reduceLT, Nat.reduceLeDiff, Nat.reduceAdd, Nat.reduceMul, Nat.reduceBEq, Int.reduceToNat, zc59, st59, ld59]
  refine call (out_ok hr) ?_
  rintro r2 h2 ⟨hE2, rfl⟩
  have hW : InW n := by have := H8_big; unfold InW; omega
  rw [if_pos hW]
  have hg : h2.ext.get h.n = some (.cells [ZW, ZW, ZW, ZW, ZW, ZW, ZW, ZW] 0 none) := by
    rw [hE2.get _ (by have := hE.n; simp at this; omega), hE.get _ (by simp)]; exact get_new_same _ _ rfl
  have hspl : IH.splice [ZW, ZW, ZW, ZW, ZW, ZW, ZW, ZW] 0 (wdC (wideN n)) = wdC (wideN n) := splice_all (by rw [wdC_len]; rfl)
  have hlt : h.n < h2.n := by have a1 := hE.n; have a2 := hE2.n; simp only [new_n] at a1; omega
  simp -dsimp (maxSteps := 1000000) (disch := first | omega | (simp only [new_n, put_n]; omega) | decide +kernel | (repeat first | rw [new_n] | rw [put_n])) only [wpS, wpT, Nat.reduceEqDiff, reduceIte, Nat.reduceLT, Nat.reduceLeDiff, Nat.reduceAdd, Nat.reduceMul, Nat.reduceBEq, Int.reduceToNat, zc59, st59, ld59, wdV_form, wdC_len, wdC_all, wd_take, hspl, hg]
  exact ⟨((((Ext.refl h).new _).trans hE).trans hE2 |>.new _).put (by omega) _ |>.put (by omega) _, rfl⟩

set_option maxRecDepth 100000 in
theorem refAdd_ok {h : IH} (a b : Nat) (ha : a < W8) (hb : b < W8) : WV Proofs.Tryd.prog (.func (.func 36) #[] #[]) [wdV a, wdV b] h fun r h' => Ext h h' ∧ r = if InW (wdI a + wdI b) then .tuple #[wideV (wdI a + wdI b), KI 0] else .tuple #[wdV 0, KI 6] := by
  have inw : ∀ n, n < W8 → InW (wdI n) := by
    intro n hn
    have := W8_two
    unfold InW wdI
    split <;> omega
  refine enter (nt := 14) (rs := [.cell 4 59, .tmp 5]) Proofs.Tryd.func36 rfl rfl rfl (by simp) ?_
  simp -dsimp (maxSteps := 1000000) (disch := first | omega | (simp only [new_n, put_n]; omega) | decide +kernel | (repeat first | rw [new_n] | rw [put_n])) only [wpS, wpT, Nat.reduceEqDiff, reduceIte, Nat.reduceLT, Nat.reduceLeDiff, Nat.reduceAdd, Nat.reduceMul, Nat.reduceBEq, Int.reduceToNat, zc59, ld59, st59, wdV_form]
  have ee : ∀ o1 o2 o3, Ext h (((h.new o1).new o2).new o3) := fun o1 o2 o3 => (((Ext.refl h).new _).new _).new _
  refine drawn [(2, [1])] (by kernel_rfl) (by kernel_rfl) rfl ?_
  simp -dsimp (maxSteps := 1000000) (disch := first | omega | (simp only [new_n, put_n]; omega) | decide +kernel | (repeat first | rw [new_n] | rw [put_n])) only [wpS, wpT, Nat.reduceEqDiff, reduceIte, Nat.reduceLT, Nat.reduceLeDiff, Nat.reduceAdd, Nat.reduceMul, Nat.reduceBEq, Int.reduceToNat, zc59, ld59, st59, wdC_len, wd_take]
  refine call (in_ok a ha) ?_
  rintro r h1 ⟨hE, hr⟩
  have hr0 : h1.row (2 * (h.n + 1)) = some (wdC b) := by
    rw [hE.row (by simp)]; simp -dsimp (maxSteps := 1000000) (disch := first | omega | (simp only [new_n, put_n]; omega) | decide +kernel | (repeat first | rw [new_n] | rw [put_n])) only [wpS, wpT, Nat.reduceEqDiff, reduceIte, Nat.reduceLT, Nat.reduceLeDiff, Nat.reduceAdd, Nat.reduceMul, Nat.reduceBEq, Int.reduceToNat, zc59, ld59, st59]
  simp -dsimp (maxSteps := 1000000) (disch := first | omega | (simp only [new_n, put_n]; omega) | decide +kernel | (repeat first | rw [new_n] | rw [put_n])) only [wpS, wpT, Nat.reduceEqDiff, reduceIte, Nat.reduceLT, Nat.reduceLeDiff, Nat.reduceAdd, Nat.reduceMul, Nat.reduceBEq, Int.reduceToNat, zc59, ld59, st59, hr0, wdC_len, wd_take]
  refine call (in_ok b hb) ?_
  rintro r2 h2 ⟨hE2, hr2⟩
  simp -dsimp (maxSteps := 1000000) (disch := first | omega | (simp only [new_n, put_n]; omega) | decide +kernel | (repeat first | rw [new_n] | rw [put_n])) only [wpS, wpT, Nat.reduceEqDiff, reduceIte, Nat.reduceLT, Nat.reduceLeDiff, Nat.reduceAdd, Nat.reduceMul, Nat.reduceBEq, Int.reduceToNat, zc59, ld59, st59]
  refine call (plus_ok (hr.keep hE2.keep) hr2 (smallW (inw a ha)) (smallW (inw b hb))) ?_
  rintro r3 h3 ⟨hE3, hr3⟩
  simp -dsimp (maxSteps := 1000000) (disch := first | omega | (simp only [new_n, put_n]; omega) | decide +kernel | (repeat first | rw [new_n] | rw [put_n])) only [wpS, wpT, Nat.reduceEqDiff, reduceIte, Nat.reduceLT, Nat.reduceLeDiff, Nat.reduceAdd, Nat.reduceMul, Nat.reduceBEq, Int.reduceToNat, zc59, ld59, st59]
  refine call (out_ok hr3) ?_
  rintro r4 h4 ⟨hE4, rfl⟩
  have hE5 := hE.trans (hE2.trans (hE3.trans hE4))
  have hg : h4.ext.get (h.n + 1 + 1) = some (.cells [ZW, ZW, ZW, ZW, ZW, ZW, ZW, ZW] 0 none) := by
    rw [hE5.get _ (by simp)]; exact get_new_same _ _ rfl
  have hspl : ∀ n, IH.splice [ZW, ZW, ZW, ZW, ZW, ZW, ZW, ZW] 0 (wdC n) = wdC n := fun n => splice_all (by rw [wdC_len]; rfl)
  have st : ∀ tr : List (Fr × IH), True := fun _ => trivial
  by_cases hW : InW (wdI a + wdI b)
  · rw [if_pos hW]
    simp -dsimp (maxSteps := 1000000) (disch := first | omega | (simp only [new_n, put_n]; omega) | decide +kernel | (repeat first | rw [new_n] | rw [put_n])) only [wpS, wpT, Nat.reduceEqDiff, reduceIte, Nat.reduceLT, Nat.reduceLeDiff, Nat.reduceAdd, Nat.reduceMul, Nat.reduceBEq, Int.reduceToNat, zc59, ld59, st59, hg, wdV_form, wdC_len, wdC_all, hspl]
    refine ⟨wpSteady_one rfl rfl rfl rfl (steady_load (av := ptr (2 * (h.n + 1)) 0) (v := wdV b) rfl ?_ ?_), ?_⟩
    · simp -dsimp (maxSteps := 1000000) (disch := first | omega | (simp only [new_n, put_n]; omega) | decide +kernel | (repeat first | rw [new_n] | rw [put_n])) only [wpS, wpT, Nat.reduceEqDiff, reduceIte, Nat.reduceLT, Nat.reduceLeDiff, Nat.reduceAdd, Nat.reduceMul, Nat.reduceBEq, Int.reduceToNat, zc59, ld59, st59, hr0, wdC_len, wd_take]
      rfl
    · simp -dsimp (maxSteps := 1000000) (disch := first | omega | (simp only [new_n, put_n]; omega) | decide +kernel | (repeat first | rw [new_n] | rw [put_n])) only [wpS, wpT, Nat.reduceEqDiff, reduceIte, Nat.reduceLT, Nat.reduceLeDiff, Nat.reduceAdd, Nat.reduceMul, Nat.reduceBEq, Int.reduceToNat, zc59, ld59, st59, hr0, wdC_len, wd_take]
      rfl
    · simp -dsimp (maxSteps := 1000000) (disch := first | omega | (simp only [new_n, put_n]; omega) | decide +kernel | (repeat first | rw [new_n] | rw [put_n])) only [wpS, wpT, Nat.reduceEqDiff, reduceIte, Nat.reduceLT, Nat.reduceLeDiff, Nat.reduceAdd, Nat.reduceMul, Nat.reduceBEq, Int.reduceToNat, zc59, ld59, st59, wdC_len, wd_take]
      exact ⟨((ee _ _ _).trans hE5).put (by omega) _, rfl⟩
  · rw [if_neg hW]
    simp -dsimp (maxSteps := 1000000) (disch := first | omega | (simp only [new_n, put_n]; omega) | decide +kernel | (repeat first | rw [new_n] | rw [put_n])) only [wpS, wpT, Nat.reduceEqDiff, reduceIte, Nat.reduceLT, Nat.reduceLeDiff, Nat.reduceAdd, Nat.reduceMul, Nat.reduceBEq, Int.reduceToNat, zc59, ld59, st59, hg, wdV_form, wdC_len, wdC_all, hspl]
    refine ⟨wpSteady_one rfl rfl rfl rfl (steady_load (av := ptr (2 * (h.n + 1)) 0) (v := wdV b) rfl ?_ ?_), ?_⟩
    · simp -dsimp (maxSteps := 1000000) (disch := first | omega | (simp only [new_n, put_n]; omega) | decide +kernel | (repeat first | rw [new_n] | rw [put_n])) only [wpS, wpT, Nat.reduceEqDiff, reduceIte, Nat.reduceLT, Nat.reduceLeDiff, Nat.reduceAdd, Nat.reduceMul, Nat.reduceBEq, Int.reduceToNat, zc59, ld59, st59, hr0, wdC_len, wd_take]
      rfl
    · simp -dsimp (maxSteps := 1000000) (disch := first | omega | (simp only [new_n, put_n]; omega) | decide +kernel | (repeat first | rw [new_n] | rw [put_n])) only [wpS, wpT, Nat.reduceEqDiff, reduceIte, Nat.reduceLT, Nat.reduceLeDiff, Nat.reduceAdd, Nat.reduceMul, Nat.reduceBEq, Int.reduceToNat, zc59, ld59, st59, hr0, wdC_len, wd_take]
      rfl
    · simp -dsimp (maxSteps := 1000000) (disch := first | omega | (simp only [new_n, put_n]; omega) | decide +kernel | (repeat first | rw [new_n] | rw [put_n])) only [wpS, wpT, Nat.reduceEqDiff, reduceIte, Nat.reduceLT, Nat.reduceLeDiff, Nat.reduceAdd, Nat.reduceMul, Nat.reduceBEq, Int.reduceToNat, zc59, ld59, st59, wdC_len, wd_take]
      exact ⟨((ee _ _ _).trans hE5).put (by omega) _, rfl⟩
end Go.Id

/-! Contracts: the reference's long integers, ninth part: read as integers. -/
namespace Go.Id
open Go

theorem wrapI (n : Int) : IntKind.i64.wrap n = (n + 9223372036854775808) % 18446744073709551616 - 9223372036854775808 := by
  have e : IntKind.i64.wrap n = if decide (n % 18446744073709551616 ≥ 9223372036854775808) = true then n % 18446744073709551616 - 18446744073709551616 else n % 18446744073709551616 := by
    simp [IntKind.wrap, IntKind.bits, IntKind.signed]
  rw [e]
  split <;> simp at * <;> omega
set_option maxRecDepth 100000 in
set_option maxHeartbeats 2000000 in
theorem integer_ok {h : IH} {v : Value} {z : Int} (hv : LongIs h v z) (sz : SmallI z) : WV Proofs.Tryd.prog (.func (.func 80) #[] #[]) [v] h fun r h' => Ext h h' ∧ r = if In64 z then .tuple #[KI z, KI 0] else .tuple #[KI 0, KI 6] := by
  obtain ⟨s, n1, rfl, c1, o1, l1, z1⟩ := hv.form
  refine enter (nt := 39) (rs := [.tmp 2, .tmp 3]) Proofs.Tryd.func80 rfl rfl rfl (by simp) ?_
  simp -dsimp (maxSteps := 1000000) (disch := first | omega | (simp only [new_n, put_n]; omega) | decide +kernel | (repeat first | rw [new_n] | rw [put_n])) only [wpS, wpT, Nat.reduceEqDiff, reduceIte, Nat.reduceLT, Nat.reduceLeDiff, Nat.reduceAdd, Nat.reduceMul, Nat.reduceBEq, Int.reduceToNat, ld110, fa110_1, ld33, es33, ld3, cv3_47, fa110_0, ld4, cv47_3, ln33, c1]
  have hE0 : Ext h (h.new (.cells [.bool (decide (z < 0)), s] 0 none)) := (Ext.refl h).new _
  refine drawn [(0, [2]), (5, [7])] (by kernel_rfl) (by kernel_rfl) rfl ?_
  simp -dsimp (maxSteps := 1000000) (disch := first | omega | (simp only [new_n, put_n]; omega) | decide +kernel | (repeat first | rw [new_n] | rw [put_n])) only [wpS, wpT, Nat.reduceEqDiff, reduceIte, Nat.reduceLT, Nat.reduceLeDiff, Nat.reduceAdd, Nat.reduceMul, Nat.reduceBEq, Int.reduceToNat, ld110, fa110_1, ld33, es33, ld3, cv3_47, fa110_0, ld4, cv47_3, ln33]
  refine call (long1_ok (-9223372036854775808) (by omega)) ?_
  rintro r1 h1 ⟨hE1, hr1⟩
  simp -dsimp (maxSteps := 1000000) (disch := first | omega | (simp only [new_n, put_n]; omega) | decide +kernel | (repeat first | rw [new_n] | rw [put_n])) only [wpS, wpT, Nat.reduceEqDiff, reduceIte, Nat.reduceLT, Nat.reduceLeDiff, Nat.reduceAdd, Nat.reduceMul, Nat.reduceBEq, Int.reduceToNat, ld110, fa110_1, ld33, es33, ld3, cv3_47, fa110_0, ld4, cv47_3, ln33]
  refine call (lorder_ok (hv.keep (hE0.trans hE1).keep) hr1 sz (small64 (by omega))) ?_
  rintro r2 h2 ⟨hE2, rfl⟩
  have hr0 : h1.row (2 * h.n) = some [.bool (decide (z < 0)), s] := by
    rw [hE1.row (by simp)]; simp -dsimp (maxSteps := 1000000) (disch := first | omega | (simp only [new_n, put_n]; omega) | decide +kernel | (repeat first | rw [new_n] | rw [put_n])) only [wpS, wpT, Nat.reduceEqDiff, reduceIte, Nat.reduceLT, Nat.reduceLeDiff, Nat.reduceAdd, Nat.reduceMul, Nat.reduceBEq, Int.reduceToNat, ld110, fa110_1, ld33, es33, ld3, cv3_47, fa110_0, ld4, cv47_3, ln33]
  have hr02 : h2.row (2 * h.n) = some [.bool (decide (z < 0)), s] := by
    rw [hE2.row (by have := hE1.n; simp at this; omega)]; exact hr0
  by_cases hlo : z < -9223372036854775808
  · rw [if_pos hlo]
    simp -dsimp (maxSteps := 1000000) (disch := first | omega | (simp only [new_n, put_n]; omega) | decide +kernel | (repeat first | rw [new_n] | rw [put_n])) only [wpS, wpT, Nat.reduceEqDiff, reduceIte, Nat.reduceLT, Nat.reduceLeDiff, Nat.reduceAdd, Nat.reduceMul, Nat.reduceBEq, Int.reduceToNat, ld110, fa110_1, ld33, es33, ld3, cv3_47, fa110_0, ld4, cv47_3, ln33]
    refine ⟨wpSteady_cons (wpSteady_one rfl rfl rfl rfl (steady_load (av := ptr (2 * h.n) 0) (v := .agg #[.bool (decide (z < 0)), s]) rfl ?_ ?_)) (wpSteady_not rfl rfl rfl), ?_⟩
    · simp -dsimp (maxSteps := 1000000) (disch := first | omega | (simp only [new_n, put_n]; omega) | decide +kernel | (repeat first | rw [new_n] | rw [put_n])) only [wpS, wpT, Nat.reduceEqDiff, reduceIte, Nat.reduceLT, Nat.reduceLeDiff, Nat.reduceAdd, Nat.reduceMul, Nat.reduceBEq, Int.reduceToNat, ld110, fa110_1, ld33, es33, ld3, cv3_47, fa110_0, ld4, cv47_3, ln33]
      rfl
    · simp -dsimp (maxSteps := 1000000) (disch := first | omega | (simp only [new_n, put_n]; omega) | decide +kernel | (repeat first | rw [new_n] | rw [put_n])) only [wpS, wpT, Nat.reduceEqDiff, reduceIte, Nat.reduceLT, Nat.reduceLeDiff, Nat.reduceAdd, Nat.reduceMul, Nat.reduceBEq, Int.reduceToNat, ld110, fa110_1, ld33, es33, ld3, cv3_47, fa110_0, ld4, cv47_3, ln33, hr0]
      rfl
    · simp -dsimp (maxSteps := 1000000) (disch := first | omega | (simp only [new_n, put_n]; omega) | decide +kernel | (repeat first | rw [new_n] | rw [put_n])) only [wpS, wpT, Nat.reduceEqDiff, reduceIte, Nat.reduceLT, Nat.reduceLeDiff, Nat.reduceAdd, Nat.reduceMul, Nat.reduceBEq, Int.reduceToNat, ld110, fa110_1, ld33, es33, ld3, cv3_47, fa110_0, ld4, cv47_3, ln33]
      exact ⟨hE0.trans (hE1.trans hE2), by rw [if_neg (by omega)]⟩
  · have ho1 : (if z < -9223372036854775808 then (-1 : Int) else if -9223372036854775808 < z then 1 else 0) ≥ 0 := by rw [if_neg hlo]; split <;> omega
    generalize (if z < -9223372036854775808 then (-1 : Int) else if -9223372036854775808 < z then 1 else 0) = c1 at ho1
    simp -dsimp (maxSteps := 1000000) (disch := first | omega | (simp only [new_n, put_n]; omega) | decide +kernel | (repeat first | rw [new_n] | rw [put_n])) only [wpS, wpT, Nat.reduceEqDiff, reduceIte, Nat.reduceLT, Nat.reduceLeDiff, Nat.reduceAdd, Nat.reduceMul, Nat.reduceBEq, Int.reduceToNat, ld110, fa110_1, ld33, es33, ld3, cv3_47, fa110_0, ld4, cv47_3, ln33, hr02]
    refine call (long1_ok 9223372036854775807 (by omega)) ?_
    rintro r3 h3 ⟨hE3, hr3⟩
    simp -dsimp (maxSteps := 1000000) (disch := first | omega | (simp only [new_n, put_n]; omega) | decide +kernel | (repeat first | rw [new_n] | rw [put_n])) only [wpS, wpT, Nat.reduceEqDiff, reduceIte, Nat.reduceLT, Nat.reduceLeDiff, Nat.reduceAdd, Nat.reduceMul, Nat.reduceBEq, Int.reduceToNat, ld110, fa110_1, ld33, es33, ld3, cv3_47, fa110_0, ld4, cv47_3, ln33]
    refine call (lorder_ok (hv.keep (hE0.trans (hE1.trans (hE2.trans hE3))).keep) hr3 sz (small64 (by omega))) ?_
    rintro r4 h4 ⟨hE4, rfl⟩
    have hr03 : h3.row (2 * h.n) = some [.bool (decide (z < 0)), s] := by
      rw [hE3.row (by have := hE1.n; have := hE2.n; simp at *; omega)]; exact hr02
    have hr04 : h4.row (2 * h.n) = some [.bool (decide (z < 0)), s] := by
      rw [hE4.row (by have := hE1.n; have := hE2.n; have := hE3.n; simp at *; omega)]; exact hr03
    have hEE := hE0.trans (hE1.trans (hE2.trans (hE3.trans hE4)))
    by_cases hhi : 9223372036854775807 < z
    · rw [if_neg (by omega), if_pos hhi]
      simp -dsimp (maxSteps := 1000000) (disch := first | omega | (simp only [new_n, put_n]; omega) | decide +kernel | (repeat first | rw [new_n] | rw [put_n])) only [wpS, wpT, Nat.reduceEqDiff, reduceIte, Nat.reduceLT, Nat.reduceLeDiff, Nat.reduceAdd, Nat.reduceMul, Nat.reduceBEq, Int.reduceToNat, ld110, fa110_1, ld33, es33, ld3, cv3_47, fa110_0, ld4, cv47_3, ln33]
      refine ⟨wpSteady_cons (wpSteady_one rfl rfl rfl rfl (steady_load (av := ptr (2 * h.n) 0) (v := .agg #[.bool (decide (z < 0)), s]) rfl ?_ ?_)) (wpSteady_one rfl rfl rfl rfl (steady_load (av := ptr (2 * h.n) 0) (v := .agg #[.bool (decide (z < 0)), s]) rfl ?_ ?_)), ?_⟩
      · simp -dsimp (maxSteps := 1000000) (disch := first | omega | (simp only [new_n, put_n]; omega) | decide +kernel | (repeat first | rw [new_n] | rw [put_n])) only [wpS, wpT, Nat.reduceEqDiff, reduceIte, Nat.reduceLT, Nat.reduceLeDiff, Nat.reduceAdd, Nat.reduceMul, Nat.reduceBEq, Int.reduceToNat, ld110, fa110_1, ld33, es33, ld3, cv3_47, fa110_0, ld4, cv47_3, ln33]
        rfl
      · simp -dsimp (maxSteps := 1000000) (disch := first | omega | (simp only [new_n, put_n]; omega) | decide +kernel | (repeat first | rw [new_n] | rw [put_n])) only [wpS, wpT, Nat.reduceEqDiff, reduceIte, Nat.reduceLT, Nat.reduceLeDiff, Nat.reduceAdd, Nat.reduceMul, Nat.reduceBEq, Int.reduceToNat, ld110, fa110_1, ld33, es33, ld3, cv3_47, fa110_0, ld4, cv47_3, ln33, hr0]
        rfl
      · simp -dsimp (maxSteps := 1000000) (disch := first | omega | (simp only [new_n, put_n]; omega) | decide +kernel | (repeat first | rw [new_n] | rw [put_n])) only [wpS, wpT, Nat.reduceEqDiff, reduceIte, Nat.reduceLT, Nat.reduceLeDiff, Nat.reduceAdd, Nat.reduceMul, Nat.reduceBEq, Int.reduceToNat, ld110, fa110_1, ld33, es33, ld3, cv3_47, fa110_0, ld4, cv47_3, ln33, hr02]
        rfl
      · simp -dsimp (maxSteps := 1000000) (disch := first | omega | (simp only [new_n, put_n]; omega) | decide +kernel | (repeat first | rw [new_n] | rw [put_n])) only [wpS, wpT, Nat.reduceEqDiff, reduceIte, Nat.reduceLT, Nat.reduceLeDiff, Nat.reduceAdd, Nat.reduceMul, Nat.reduceBEq, Int.reduceToNat, ld110, fa110_1, ld33, es33, ld3, cv3_47, fa110_0, ld4, cv47_3, ln33, hr03]
        rfl
      · simp -dsimp (maxSteps := 1000000) (disch := first | omega | (simp only [new_n, put_n]; omega) | decide +kernel | (repeat first | rw [new_n] | rw [put_n])) only [wpS, wpT, Nat.reduceEqDiff, reduceIte, Nat.reduceLT, Nat.reduceLeDiff, Nat.reduceAdd, Nat.reduceMul, Nat.reduceBEq, Int.reduceToNat, ld110, fa110_1, ld33, es33, ld3, cv3_47, fa110_0, ld4, cv47_3, ln33]
        exact ⟨hEE, by rw [if_neg (by omega)]⟩
    · have ho2 : (if z < 9223372036854775807 then (-1 : Int) else if 9223372036854775807 < z then 1 else 0) ≤ 0 := by split <;> (try split) <;> omega
      generalize (if z < 9223372036854775807 then (-1 : Int) else if 9223372036854775807 < z then 1 else 0) = c2 at ho2
      have hin : In64 z := by omega
      simp -dsimp (maxSteps := 1000000) (disch := first | omega | (simp only [new_n, put_n]; omega) | decide +kernel | (repeat first | rw [new_n] | rw [put_n])) only [wpS, wpT, Nat.reduceEqDiff, reduceIte, Nat.reduceLT, Nat.reduceLeDiff, Nat.reduceAdd, Nat.reduceMul, Nat.reduceBEq, Int.reduceToNat, ld110, fa110_1, ld33, es33, ld3, cv3_47, fa110_0, ld4, cv47_3, ln33]
      refine ⟨wpSteady_cons (wpSteady_one rfl rfl rfl rfl (steady_load (av := ptr (2 * h.n) 0) (v := .agg #[.bool (decide (z < 0)), s]) rfl ?_ ?_)) (wpSteady_one rfl rfl rfl rfl (steady_load (av := ptr (2 * h.n) 0) (v := .agg #[.bool (decide (z < 0)), s]) rfl ?_ ?_)), ?_⟩
      · simp -dsimp (maxSteps := 1000000) (disch := first | omega | (simp only [new_n, put_n]; omega) | decide +kernel | (repeat first | rw [new_n] | rw [put_n])) only [wpS, wpT, Nat.reduceEqDiff, reduceIte, Nat.reduceLT, Nat.reduceLeDiff, Nat.reduceAdd, Nat.reduceMul, Nat.reduceBEq, Int.reduceToNat, ld110, fa110_1, ld33, es33, ld3, cv3_47, fa110_0, ld4, cv47_3, ln33]
        rfl
      · simp -dsimp (maxSteps := 1000000) (disch := first | omega | (simp only [new_n, put_n]; omega) | decide +kernel | (repeat first | rw [new_n] | rw [put_n])) only [wpS, wpT, Nat.reduceEqDiff, reduceIte, Nat.reduceLT, Nat.reduceLeDiff, Nat.reduceAdd, Nat.reduceMul, Nat.reduceBEq, Int.reduceToNat, ld110, fa110_1, ld33, es33, ld3, cv3_47, fa110_0, ld4, cv47_3, ln33, hr0]
        rfl
      · simp -dsimp (maxSteps := 1000000) (disch := first | omega | (simp only [new_n, put_n]; omega) | decide +kernel | (repeat first | rw [new_n] | rw [put_n])) only [wpS, wpT, Nat.reduceEqDiff, reduceIte, Nat.reduceLT, Nat.reduceLeDiff, Nat.reduceAdd, Nat.reduceMul, Nat.reduceBEq, Int.reduceToNat, ld110, fa110_1, ld33, es33, ld3, cv3_47, fa110_0, ld4, cv47_3, ln33, hr02]
        rfl
      · simp -dsimp (maxSteps := 1000000) (disch := first | omega | (simp only [new_n, put_n]; omega) | decide +kernel | (repeat first | rw [new_n] | rw [put_n])) only [wpS, wpT, Nat.reduceEqDiff, reduceIte, Nat.reduceLT, Nat.reduceLeDiff, Nat.reduceAdd, Nat.reduceMul, Nat.reduceBEq, Int.reduceToNat, ld110, fa110_1, ld33, es33, ld3, cv3_47, fa110_0, ld4, cv47_3, ln33, hr03]
        rfl
      · obtain ⟨s', hs', ds, hD, hN, hx⟩ := hv
        cases hs'
        have hD4 := hD.keep hEE.keep
        have hl := hD.2.2
        simp -dsimp (maxSteps := 1000000) (disch := first | omega | (simp only [new_n, put_n]; omega) | decide +kernel | (repeat first | rw [new_n] | rw [put_n])) only [wpS, wpT, Nat.reduceEqDiff, reduceIte, Nat.reduceLT, Nat.reduceLeDiff, Nat.reduceAdd, Nat.reduceMul, Nat.reduceBEq, Int.reduceToNat, ld110, fa110_1, ld33, es33, ld3, cv3_47, fa110_0, ld4, cv47_3, ln33, hr04, hD4.1.len sl33]
        refine loop (fun m fr h5 => ∃ u : Nat, h5 = h4 ∧ m ≤ ds.length ∧ fget fr 1 = some (ptr (2 * h.n) 0) ∧ fget fr 4 = some (K64 u) ∧ fget fr 5 = some (KI ((m : Int) - 1)) ∧ u * 4294967296 ^ m + valT ds m = valD ds) ds.length ⟨0, rfl, Nat.le_refl _, by simp, by simp, by simp, by simp [valD]⟩ ?_
        rintro m fr h5 ⟨u, rfl, hm, f1, f4, f5, hu⟩
        rcases Nat.eq_zero_or_pos m with rfl | hp
        · have hu2 : u = z.natAbs := by simp [valT] at hu; omega
          simp -dsimp (maxSteps := 1000000) (disch := first | omega | (simp only [new_n, put_n]; omega) | decide +kernel | (repeat first | rw [new_n] | rw [put_n])) only [wpS, wpT, Nat.reduceEqDiff, reduceIte, Nat.reduceLT, Nat.reduceLeDiff, Nat.reduceAdd, Nat.reduceMul, Nat.reduceBEq, Int.reduceToNat, ld110, fa110_1, ld33, es33, ld3, cv3_47, fa110_0, ld4, cv47_3, ln33, f1, f4, f5, hr04]
          refine bq_intro ?_ ?_ <;> intro hz <;> simp only [bne_iff_ne, beq_iff_eq, decide_eq_true_eq, decide_eq_false_iff_not, bne_eq_false_iff_eq, beq_eq_false_iff_ne, ne_eq, Bool.not_eq_true', Bool.not_eq_false', Bool.not_eq_true, Bool.not_eq_false, Decidable.not_not, Bool.not_not] at hz
          · have e1 : IntKind.u64.wrap (-(u : Int)) = 18446744073709551616 - (u : Int) := by rw [wrapU]; omega
            have e2 : IntKind.i64.wrap (18446744073709551616 - (u : Int)) = z := by rw [wrapI]; omega
            simp -dsimp (maxSteps := 1000000) (disch := first | omega | (simp only [new_n, put_n]; omega) | decide +kernel | (repeat first | rw [new_n] | rw [put_n])) only [wpS, wpT, Nat.reduceEqDiff, reduceIte, Nat.reduceLT, Nat.reduceLeDiff, Nat.reduceAdd, Nat.reduceMul, Nat.reduceBEq, Int.reduceToNat, ld110, fa110_1, ld33, es33, ld3, cv3_47, fa110_0, ld4, cv47_3, ln33, f4, e1, e2]
            exact ⟨hEE, by rw [if_pos hin]⟩
          · have e2 : IntKind.i64.wrap (u : Int) = z := by rw [wrapI]; omega
            simp -dsimp (maxSteps := 1000000) (disch := first | omega | (simp only [new_n, put_n]; omega) | decide +kernel | (repeat first | rw [new_n] | rw [put_n])) only [wpS, wpT, Nat.reduceEqDiff, reduceIte, Nat.reduceLT, Nat.reduceLeDiff, Nat.reduceAdd, Nat.reduceMul, Nat.reduceBEq, Int.reduceToNat, ld110, fa110_1, ld33, es33, ld3, cv3_47, fa110_0, ld4, cv47_3, ln33, f4, e2]
            exact ⟨hEE, by rw [if_pos hin]⟩
        · obtain ⟨k, rfl⟩ : ∃ k, m = k + 1 := ⟨m - 1, by omega⟩
          have h2' : (((k + 1 : Nat) : Int) - 1) = (k : Int) := by omega
          rw [h2'] at f5
          have dd := getD_lt hD.2.1 k
          have hub : u * 4294967296 + ds.getD k 0 ≤ valD ds := by
            rw [valT, Nat.pow_succ] at hu
            have hp1 : 1 ≤ 4294967296 ^ k := pow_pos' k
            have h9 : u * 4294967296 * 1 ≤ u * 4294967296 * 4294967296 ^ k := Nat.mul_le_mul_left _ hp1
            have h10 : ds.getD k 0 * 1 ≤ ds.getD k 0 * 4294967296 ^ k := Nat.mul_le_mul_left _ hp1
            have h11 : u * (4294967296 ^ k * 4294967296) = u * 4294967296 * 4294967296 ^ k := by grind
            omega
          have e1 : (u : Int) * 4294967296 = ((u * 4294967296 : Nat) : Int) := by omega
          simp -dsimp (maxSteps := 1000000) (disch := first | omega | (simp only [new_n, put_n]; omega) | decide +kernel | (repeat first | rw [new_n] | rw [put_n])) only [wpS, wpT, Nat.reduceEqDiff, reduceIte, Nat.reduceLT, Nat.reduceLeDiff, Nat.reduceAdd, Nat.reduceMul, Nat.reduceBEq, Int.reduceToNat, ld110, fa110_1, ld33, es33, ld3, cv3_47, fa110_0, ld4, cv47_3, ln33, f1, f4, f5, hr04, e1, hD4.1.idx es33 (show k < ds.length by omega), hD4.1.ld (Keep.refl _) (P := Proofs.Tryd.prog) (t := 3) (c := k) (by simp <;> omega) ag3, map_get, get_some (show k < ds.length by omega)]
          refine ⟨k, by omega, u * 4294967296 + ds.getD k 0, rfl, by omega, by simp [f1], by simp, by simp, ?_⟩
          rw [← hu, valT]
          grind

theorem refInt_ok {h : IH} (a : Nat) (ha : a < W8) : WV Proofs.Tryd.prog (.func (.func 45) #[] #[]) [wdV a] h fun r h' => Ext h h' ∧ r = if In64 (wdI a) then .tuple #[KI (wdI a), KI 0] else .tuple #[KI 0, KI 6] := by
  have inw : InW (wdI a) := by
    have := W8_two
    unfold InW wdI
    split <;> omega
  refine enter (nt := 9) (rs := [.tmp 2, .tmp 3]) Proofs.Tryd.func45 rfl rfl rfl (by simp) ?_
  simp -dsimp (maxSteps := 1000000) (disch := first | omega | (simp only [new_n, put_n]; omega) | decide +kernel | (repeat first | rw [new_n] | rw [put_n])) only [wpS, wpT, Nat.reduceEqDiff, reduceIte, Nat.reduceLT, Nat.reduceLeDiff, Nat.reduceAdd, Nat.reduceMul, Nat.reduceBEq, Int.reduceToNat, ld59, wdV_form, wdC_len, wd_take]
  refine call (in_ok a ha) ?_
  rintro r h1 ⟨hE, hr⟩
  simp -dsimp (maxSteps := 1000000) (disch := first | omega | (simp only [new_n, put_n]; omega) | decide +kernel | (repeat first | rw [new_n] | rw [put_n])) only [wpS, wpT, Nat.reduceEqDiff, reduceIte, Nat.reduceLT, Nat.reduceLeDiff, Nat.reduceAdd, Nat.reduceMul, Nat.reduceBEq, Int.reduceToNat, ld59]
  refine call (integer_ok hr (smallW inw)) ?_
  rintro r2 h2 ⟨hE2, rfl⟩
  have hEE := ((Ext.refl h).new _).trans (hE.trans hE2)
  by_cases hz : In64 (wdI a)
  · rw [if_pos hz]
    simp -dsimp (maxSteps := 1000000) (disch := first | omega | (simp only [new_n, put_n]; omega) | decide +kernel | (repeat first | rw [new_n] | rw [put_n])) only [wpS, wpT, Nat.reduceEqDiff, reduceIte, Nat.reduceLT, Nat.reduceLeDiff, Nat.reduceAdd, Nat.reduceMul, Nat.reduceBEq, Int.reduceToNat, ld59]
    exact hEE
  · rw [if_neg hz]
    simp -dsimp (maxSteps := 1000000) (disch := first | omega | (simp only [new_n, put_n]; omega) | decide +kernel | (repeat first | rw [new_n] | rw [put_n])) only [wpS, wpT, Nat.reduceEqDiff, reduceIte, Nat.reduceLT, Nat.reduceLeDiff, Nat.reduceAdd, Nat.reduceMul, Nat.reduceBEq, Int.reduceToNat, ld59]
    exact hEE
end Go.Id

/-! Contracts: wide integers of the program: from and to integers. -/
namespace Go.Id
open Go

theorem wdC_map (n : Nat) : wdC n = ((List.range 8).map fun i => (wrd n i : Int)).map (Value.int .u64) := by simp [wdC]
theorem wrd_inj {n m : Nat} (hn : n < W8) (hm : m < W8) (h : ∀ i, i < 8 → wrd n i = wrd m i) : n = m := by
  have key : ∀ i, i ≤ 8 → n % 18446744073709551616 ^ i = m % 18446744073709551616 ^ i := by
    intro i
    induction i with
    | zero => intro _; rw [Nat.pow_zero, Nat.mod_one, Nat.mod_one]
    | succ i ih => intro hi; rw [mod_wrd, mod_wrd, ih (by omega), h i (by omega)]
  have := key 8 (Nat.le_refl _)
  rw [← W8_eq] at this
  rwa [Nat.mod_eq_of_lt hn, Nat.mod_eq_of_lt hm] at this
theorem wd_dec {n m : Nat} (hn : n < W8) (hm : m < W8) : decide (((List.range 8).map fun i => (wrd n i : Int)) = ((List.range 8).map fun i => (wrd m i : Int))) = decide (n = m) := by
  rw [Bool.eq_iff_iff]; simp only [decide_eq_true_eq]
  constructor
  · intro h
    refine wrd_inj hn hm fun i hi => ?_
    have := congrArg (fun l => l[i]?) h
    simp [hi] at this
    omega
  · rintro rfl; rfl
theorem wd_eql {n m : Nat} (hn : n < W8) (hm : m < W8) (ox oy : Operand) : binop Proofs.Tryd.prog .eql 59 ox oy (.agg (wdC n).toArray) (.agg (wdC m).toArray) = some (.bool (decide (n = m))) := by
  rw [wdC_map, wdC_map, binop_eql_arr u59 u47 sz47 eg59 _ _ _ _ (by simp) (by simp), wd_dec hn hm]
theorem wd_neq {n m : Nat} (hn : n < W8) (hm : m < W8) (ox oy : Operand) : binop Proofs.Tryd.prog .neq 59 ox oy (.agg (wdC n).toArray) (.agg (wdC m).toArray) = some (.bool (!decide (n = m))) := by
  rw [wdC_map, wdC_map, binop_neq_arr u59 u47 sz47 eg59 _ _ _ _ (by simp) (by simp), wd_dec hn hm]
theorem wideN_nn {n : Int} (h : 0 ≤ n) : wideN n = n.toNat := by simp [wideN, h]
/-- The words of an int. -/
theorem wrd_int {n : Int} (hn : In64 n) (i : Nat) (hi : i < 8) : (wrd (wideN n) i : Int) = if i = 0 then n % 18446744073709551616 else if n < 0 then 18446744073709551615 else 0 := by
  by_cases h0 : 0 ≤ n
  · rw [wideN, if_pos h0]
    by_cases hz : i = 0
    · subst hz
      rw [if_pos rfl, wrd, Nat.pow_zero, Nat.div_one]; omega
    · rw [if_neg hz, if_neg (by omega), wrd_high (i := 1) (by omega) (by omega)]; rfl
  · rw [wideN, if_neg h0]
    obtain ⟨u, hu⟩ : ∃ u : Nat, u = n.natAbs := ⟨_, rfl⟩
    rw [← hu]
    -- W8 - u = (W - u) + W (W^7 - 1)
    have e : W8 - u = (18446744073709551616 - u) + 18446744073709551616 * (18446744073709551616 ^ 7 - 1) := by
      rw [W8_eq]; omega
    by_cases hz : i = 0
    · subst hz
      rw [if_pos rfl, wrd, Nat.pow_zero, Nat.div_one, e, Nat.add_mul_mod_self_left]; omega
    · rw [if_neg hz, if_pos (by omega)]
      obtain ⟨k, rfl⟩ : ∃ k, i = k + 1 := ⟨i - 1, by omega⟩
      have e3 : ((18446744073709551616 - u) + 18446744073709551616 * (18446744073709551616 ^ 7 - 1)) / 18446744073709551616 = 18446744073709551616 ^ 7 - 1 := by
        rw [Nat.add_mul_div_left _ _ (by omega), Nat.div_eq_of_lt (by omega), Nat.zero_add]
      rw [wrd, Nat.pow_succ', ← Nat.div_div_eq_div_mul, e, e3]
      have hk : k < 7 := by omega
      have hk2 : k = 0 ∨ k = 1 ∨ k = 2 ∨ k = 3 ∨ k = 4 ∨ k = 5 ∨ k = 6 := by omega
      rcases hk2 with rfl | rfl | rfl | rfl | rfl | rfl | rfl <;> rfl
/-- The words while they are filled. -/
def wfill (w0 : Int) (i : Nat) : List Value := (List.range 8).map fun j => .int .u64 (if j = 0 then w0 else if j < i then 18446744073709551615 else 0)
theorem wfill_len (w0 : Int) (i : Nat) : (wfill w0 i).length = 8 := by simp [wfill]
theorem wfill_one (w0 : Int) : wfill w0 1 = [.int .u64 w0, .int .u64 0, .int .u64 0, .int .u64 0, .int .u64 0, .int .u64 0, .int .u64 0, .int .u64 0] := by
  simp [wfill, List.range_succ]
theorem wfill_set (w0 : Int) {i : Nat} (h0 : 0 < i) (hi : i < 8) : (wfill w0 i).set i (.int .u64 18446744073709551615) = wfill w0 (i + 1) := by
  apply List.ext_getElem?
  intro j
  rw [List.getElem?_set, wfill_len]
  by_cases hij : i = j
  · subst hij
    rw [if_pos rfl, if_pos hi]
    simp [wfill, hi, show ¬ i = 0 by omega]
  · rw [if_neg hij]
    by_cases hj : j < 8
    · simp only [wfill, List.getElem?_map, List.getElem?_range hj, Option.map_some]
      by_cases hz : j = 0
      · simp [hz]
      · by_cases hlt : j < i
        · simp [hz, hlt, show j < i + 1 by omega]
        · simp [hz, hlt, show ¬ j < i + 1 by omega]
    · rw [List.getElem?_eq_none (by rw [wfill_len]; omega), List.getElem?_eq_none (by rw [wfill_len]; omega)]
theorem wfill_neg {n : Int} (hn : In64 n) (h0 : n < 0) : wfill (n % 18446744073709551616) 8 = wdC (wideN n) := by
  apply List.ext_getElem?
  intro j
  by_cases hj : j < 8
  · rw [wdC_get _ _ hj]
    simp only [wfill, List.getElem?_map, List.getElem?_range hj, Option.map_some, K64, wrd_int hn j hj]
    simp [h0, hj]
  · rw [List.getElem?_eq_none (by rw [wfill_len]; omega), List.getElem?_eq_none (by rw [wdC_len]; omega)]
theorem wfill_pos {n : Int} (hn : In64 n) (h0 : ¬ n < 0) : wfill (n % 18446744073709551616) 1 = wdC (wideN n) := by
  apply List.ext_getElem?
  intro j
  by_cases hj : j < 8
  · rw [wdC_get _ _ hj]
    simp only [wfill, List.getElem?_map, List.getElem?_range hj, Option.map_some, K64, wrd_int hn j hj]
    by_cases hz : j = 0
    · simp [hz]
    · simp [h0, hz]
  · rw [List.getElem?_eq_none (by rw [wfill_len]; omega), List.getElem?_eq_none (by rw [wdC_len]; omega)]
theorem wfill_take (w0 : Int) (i : Nat) : List.take 8 (List.drop 0 (wfill w0 i)) = wfill w0 i := by
  rw [List.drop_zero, List.take_of_length_le (by rw [wfill_len]; omega)]
set_option maxRecDepth 100000 in
theorem wideOf_ok {h : IH} (n : Int) (hn : In64 n) : WV Proofs.Tryd.prog (.func (.func 60) #[] #[]) [KI n] h fun r h' => Ext h h' ∧ r = wideV n := by
  have hw : IntKind.u64.wrap n = n % 18446744073709551616 := wrapU n
  have hE : ∀ a b c, Ext h (((h.new a).new b).put (h.n + 1) c) := fun a b c => (((Ext.refl h).new _).new _).put (by omega) _
  have fin : ∀ h1 : IH, Ext h h1 → h.n + 1 < h1.n → h1.ext.get (h.n + 1) = some (.cells (wdC (wideN n)) 0 none) → h1.ext.get h.n = some (.cells [ZW, ZW, ZW, ZW, ZW, ZW, ZW, ZW] 0 none) → True := fun _ _ _ _ _ => trivial
  refine enter (nt := 17) (rs := [.cell 2 59]) Proofs.Tryd.func60 rfl rfl rfl (by simp) ?_
  simp -dsimp (maxSteps := 1000000) (disch := first | omega | (simp only [new_n, put_n]; omega) | decide +kernel | (repeat first | rw [new_n] | rw [put_n])) only [wpR, wpT, Nat.reduceEqDiff, reduceIte, Nat.reduceLT, Nat.reduceLeDiff, Nat.reduceAdd, Nat.reduceMul, Nat.reduceBEq, Int.reduceToNat, zc59, cv3_47, bv59, pl59_0, st59, ar59, st47, ld59]
  rw [d_seq]
  simp -dsimp (maxSteps := 1000000) (disch := first | omega | (simp only [new_n, put_n]; omega) | decide +kernel | (repeat first | rw [new_n] | rw [put_n])) only [wpR, wpT, Nat.reduceEqDiff, reduceIte, Nat.reduceLT, Nat.reduceLeDiff, Nat.reduceAdd, Nat.reduceMul, Nat.reduceBEq, Int.reduceToNat, zc59, cv3_47, bv59, pl59_0, st59, ar59, st47, ld59, hw]
  rw [d_seq]
  simp -dsimp (maxSteps := 1000000) (disch := first | omega | (simp only [new_n, put_n]; omega) | decide +kernel | (repeat first | rw [new_n] | rw [put_n])) only [wpR, wpT, Nat.reduceEqDiff, reduceIte, Nat.reduceLT, Nat.reduceLeDiff, Nat.reduceAdd, Nat.reduceMul, Nat.reduceBEq, Int.reduceToNat, zc59, cv3_47, bv59, pl59_0, st59, ar59, st47, ld59, hw]
  rw [d_seq]
  refine cut (fun fr2 h2 => Ext h h2 ∧ fget fr2 2 = some (ptr (2 * h.n) 0) ∧ fget fr2 3 = some (ptr (2 * (h.n + 1)) 0) ∧ h.n + 1 < h2.n ∧ h2.ext.get (h.n + 1) = some (.cells (wdC (wideN n)) 0 none) ∧ h2.ext.get h.n = some (.cells [ZW, ZW, ZW, ZW, ZW, ZW, ZW, ZW] 0 none)) ?_ ?_
  · by_cases h0 : n < 0
    · simp -dsimp (maxSteps := 1000000) (disch := first | omega | (simp only [new_n, put_n]; omega) | decide +kernel | (repeat first | rw [new_n] | rw [put_n])) only [wpS, wpT, Nat.reduceEqDiff, reduceIte, Nat.reduceLT, Nat.reduceLeDiff, Nat.reduceAdd, Nat.reduceMul, Nat.reduceBEq, Int.reduceToNat, zc59, cv3_47, bv59, pl59_0, st59, ar59, st47, ld59, dec_lt_t h0]
      refine loop (fun m fr h2 => ∃ i : Nat, i + m = 8 ∧ 0 < i ∧ fget fr 2 = some (ptr (2 * h.n) 0) ∧ fget fr 3 = some (ptr (2 * (h.n + 1)) 0) ∧ fget fr 4 = some (KN i) ∧ Ext h h2 ∧ h.n + 1 < h2.n ∧ h2.ext.get (h.n + 1) = some (.cells (wfill (n % 18446744073709551616) i) 0 none) ∧ h2.ext.get h.n = some (.cells [ZW, ZW, ZW, ZW, ZW, ZW, ZW, ZW] 0 none)) 7 ⟨1, by simp, by simp, by simp, by simp, by simp, hE _ _ _, by simp, ?_, ?_⟩ ?_
      · rw [wfill_one]; exact get_put_same _ _ rfl
      · simp -dsimp (maxSteps := 1000000) (disch := first | omega | (simp only [new_n, put_n]; omega) | decide +kernel | (repeat first | rw [new_n] | rw [put_n])) only [wpS, wpT, Nat.reduceEqDiff, reduceIte, Nat.reduceLT, Nat.reduceLeDiff, Nat.reduceAdd, Nat.reduceMul, Nat.reduceBEq, Int.reduceToNat, zc59, cv3_47, bv59, pl59_0, st59, ar59, st47, ld59]
      · rintro m fr h2 ⟨i, him, hi0, f2, f3, f4, hE2, hlt, hg1, hg0⟩
        simp -dsimp (maxSteps := 1000000) (disch := first | omega | (simp only [new_n, put_n]; omega) | decide +kernel | (repeat first | rw [new_n] | rw [put_n])) only [wpS, wpT, Nat.reduceEqDiff, reduceIte, Nat.reduceLT, Nat.reduceLeDiff, Nat.reduceAdd, Nat.reduceMul, Nat.reduceBEq, Int.reduceToNat, zc59, cv3_47, bv59, pl59_0, st59, ar59, st47, ld59, f4]
        refine bq_intro ?_ ?_ <;> intro hc <;> simp only [bne_iff_ne, beq_iff_eq, decide_eq_true_eq, decide_eq_false_iff_not, bne_eq_false_iff_eq, beq_eq_false_iff_ne, ne_eq, Bool.not_eq_true', Bool.not_eq_false', Bool.not_eq_true, Bool.not_eq_false, Decidable.not_not, Bool.not_not] at hc
        · have hi : i < 8 := by omega
          have hsp : IH.splice (wfill (n % 18446744073709551616) i) i [.int .u64 18446744073709551615] = wfill (n % 18446744073709551616) (i + 1) := by
            rw [splice_set (by rw [wfill_len]; exact hi), wfill_set _ hi0 hi]
          simp -dsimp (maxSteps := 1000000) (disch := first | omega | (simp only [new_n, put_n]; omega) | decide +kernel | (repeat first | rw [new_n] | rw [put_n])) only [wpS, wpT, Nat.reduceEqDiff, reduceIte, Nat.reduceLT, Nat.reduceLeDiff, Nat.reduceAdd, Nat.reduceMul, Nat.reduceBEq, Int.reduceToNat, zc59, cv3_47, bv59, pl59_0, st59, ar59, st47, ld59, f3, f4, ar59, hg1, wfill_len, hsp]
          refine ⟨m - 1, by omega, i + 1, by omega, by omega, by simp [f2], by simp [f3], by simp, hE2.put (by omega) _, by simpa using hlt, get_put_same _ _ rfl, ?_⟩
          rw [get_put_old _ _ (by omega)]; exact hg0
        · obtain rfl : i = 8 := by omega
          simp -dsimp (maxSteps := 1000000) (disch := first | omega | (simp only [new_n, put_n]; omega) | decide +kernel | (repeat first | rw [new_n] | rw [put_n])) only [wpS, wpT, Nat.reduceEqDiff, reduceIte, Nat.reduceLT, Nat.reduceLeDiff, Nat.reduceAdd, Nat.reduceMul, Nat.reduceBEq, Int.reduceToNat, zc59, cv3_47, bv59, pl59_0, st59, ar59, st47, ld59]
          exact ⟨hE2, by simp [f2], by simp [f3], hlt, by rw [hg1, wfill_neg hn h0], hg0⟩
    · simp -dsimp (maxSteps := 1000000) (disch := first | omega | (simp only [new_n, put_n]; omega) | decide +kernel | (repeat first | rw [new_n] | rw [put_n])) only [wpS, wpT, Nat.reduceEqDiff, reduceIte, Nat.reduceLT, Nat.reduceLeDiff, Nat.reduceAdd, Nat.reduceMul, Nat.reduceBEq, Int.reduceToNat, zc59, cv3_47, bv59, pl59_0, st59, ar59, st47, ld59, dec_lt_f h0]
      refine ⟨hE _ _ _, by simp, by simp, by simp, ?_, ?_⟩
      · rw [← wfill_pos hn h0, wfill_one]; exact get_put_same _ _ rfl
      · simp -dsimp (maxSteps := 1000000) (disch := first | omega | (simp only [new_n, put_n]; omega) | decide +kernel | (repeat first | rw [new_n] | rw [put_n])) only [wpS, wpT, Nat.reduceEqDiff, reduceIte, Nat.reduceLT, Nat.reduceLeDiff, Nat.reduceAdd, Nat.reduceMul, Nat.reduceBEq, Int.reduceToNat, zc59, cv3_47, bv59, pl59_0, st59, ar59, st47, ld59]
  · rintro fr2 h2 ⟨hE2, f2, f3, hlt, hg1, hg0⟩
    have hrow : h2.row (2 * (h.n + 1)) = some (wdC (wideN n)) := by rw [row_even]; exact cells_of hg1
    have hspl : IH.splice [ZW, ZW, ZW, ZW, ZW, ZW, ZW, ZW] 0 (wdC (wideN n)) = wdC (wideN n) := splice_all (by rw [wdC_len]; rfl)
    simp -dsimp (maxSteps := 1000000) (disch := first | omega | (simp only [new_n, put_n]; omega) | decide +kernel | (repeat first | rw [new_n] | rw [put_n])) only [wpS, wpT, Nat.reduceEqDiff, reduceIte, Nat.reduceLT, Nat.reduceLeDiff, Nat.reduceAdd, Nat.reduceMul, Nat.reduceBEq, Int.reduceToNat, zc59, cv3_47, bv59, pl59_0, st59, ar59, st47, ld59, f2, f3, hrow, hg0, wdC_len, wd_take, wdC_all, hspl]
    exact ⟨hE2.put (by omega) _, rfl⟩
set_option maxRecDepth 100000 in
theorem wideInt_ok {h : IH} (a : Nat) (ha : a < W8) : WV Proofs.Tryd.prog (.func (.func 54) #[] #[]) [wdV a] h fun r h' => Ext h h' ∧ r = if In64 (wdI a) then .tuple #[KI (wdI a), KI 0] else .tuple #[KI 0, KI 6] := by
  have h0 := wrd_lt a 0
  obtain ⟨n, hn⟩ : ∃ n, n = IntKind.i64.wrap (wrd a 0 : Int) := ⟨_, rfl⟩
  have hn64 : In64 n := by rw [hn, wrapI]; omega
  have inw : InW (wdI a) := by
    have := W8_two
    unfold InW wdI
    split <;> omega
  have hiff : wideN n = a ↔ In64 (wdI a) ∧ wdI a = n := by
    constructor
    · intro h1
      have h2 : wdI a = n := by
        rw [← h1]
        exact wdI_wideN (by have := H8_big; unfold InW; omega)
      exact ⟨by rw [h2]; exact hn64, h2⟩
    · rintro ⟨h1, h2⟩
      rw [← h2]
      have := W8_two
      unfold wideN wdI
      split <;> split <;> omega
  have hn2 : In64 (wdI a) → wdI a = n := by
    intro h1
    have h2 : wideN (wdI a) = a := by
      have := W8_two
      unfold wideN wdI
      split <;> split <;> omega
    have h3 := wrd_int h1 0 (by omega)
    rw [h2, if_pos rfl] at h3
    rw [hn, h3, wrapI]; omega
  refine enter (nt := 13) (rs := [.tmp 2, .tmp 3]) Proofs.Tryd.func54 rfl rfl rfl (by simp) ?_
  simp -dsimp (maxSteps := 1000000) (disch := first | omega | (simp only [new_n, put_n]; omega) | decide +kernel | (repeat first | rw [new_n] | rw [put_n])) only [wpS, wpT, Nat.reduceEqDiff, reduceIte, Nat.reduceLT, Nat.reduceLeDiff, Nat.reduceAdd, Nat.reduceMul, Nat.reduceBEq, Int.reduceToNat, ar59, ld47, cv47_3, ld59, wdV_form, ar59, wdC_get a 0 (by omega), show idxAt 0 8 = some 0 from rfl, ← hn]
  refine drawn [(2, [1])] (by kernel_rfl) (by kernel_rfl) rfl ?_
  simp -dsimp (maxSteps := 1000000) (disch := first | omega | (simp only [new_n, put_n]; omega) | decide +kernel | (repeat first | rw [new_n] | rw [put_n])) only [wpS, wpT, Nat.reduceEqDiff, reduceIte, Nat.reduceLT, Nat.reduceLeDiff, Nat.reduceAdd, Nat.reduceMul, Nat.reduceBEq, Int.reduceToNat, ar59, ld47, cv47_3, ld59]
  refine call (wideOf_ok n hn64) ?_
  rintro r h1 ⟨hE, rfl⟩
  have hr : h1.row (2 * h.n) = some (wdC a) := by rw [hE.row (by simp)]; exact row_new_same _ _ _ _ rfl
  have hEE := ((Ext.refl h).new _).trans hE
  simp -dsimp (maxSteps := 1000000) (disch := first | omega | (simp only [new_n, put_n]; omega) | decide +kernel | (repeat first | rw [new_n] | rw [put_n])) only [wpS, wpT, Nat.reduceEqDiff, reduceIte, Nat.reduceLT, Nat.reduceLeDiff, Nat.reduceAdd, Nat.reduceMul, Nat.reduceBEq, Int.reduceToNat, ar59, ld47, cv47_3, ld59, hr, wdC_len, wd_take, wdV, wd_neq (wideN_lt (show InW n by have := H8_big; unfold InW; omega)) ha]
  refine ⟨wpSteady_one rfl rfl rfl rfl (steady_load (av := ptr (2 * h.n) 0) (v := wdV a) rfl ?_ ?_), ?_⟩
  · simp -dsimp (maxSteps := 1000000) (disch := first | omega | (simp only [new_n, put_n]; omega) | decide +kernel | (repeat first | rw [new_n] | rw [put_n])) only [wpS, wpT, Nat.reduceEqDiff, reduceIte, Nat.reduceLT, Nat.reduceLeDiff, Nat.reduceAdd, Nat.reduceMul, Nat.reduceBEq, Int.reduceToNat, ar59, ld47, cv47_3, ld59, hr, wdC_len, wd_take]
    rfl
  · simp -dsimp (maxSteps := 1000000) (disch := first | omega | (simp only [new_n, put_n]; omega) | decide +kernel | (repeat first | rw [new_n] | rw [put_n])) only [wpS, wpT, Nat.reduceEqDiff, reduceIte, Nat.reduceLT, Nat.reduceLeDiff, Nat.reduceAdd, Nat.reduceMul, Nat.reduceBEq, Int.reduceToNat, ar59, ld47, cv47_3, ld59, wdC_len, wd_take]
    rfl
  · by_cases he : wideN n = a
    · have h2 := hiff.1 he
      simp -dsimp (maxSteps := 1000000) (disch := first | omega | (simp only [new_n, put_n]; omega) | decide +kernel | (repeat first | rw [new_n] | rw [put_n])) only [wpS, wpT, Nat.reduceEqDiff, reduceIte, Nat.reduceLT, Nat.reduceLeDiff, Nat.reduceAdd, Nat.reduceMul, Nat.reduceBEq, Int.reduceToNat, ar59, ld47, cv47_3, ld59, show decide (wideN n = a) = true by simpa using he]
      refine ⟨hEE, ?_⟩
      rw [if_pos h2.1, h2.2]
    · simp -dsimp (maxSteps := 1000000) (disch := first | omega | (simp only [new_n, put_n]; omega) | decide +kernel | (repeat first | rw [new_n] | rw [put_n])) only [wpS, wpT, Nat.reduceEqDiff, reduceIte, Nat.reduceLT, Nat.reduceLeDiff, Nat.reduceAdd, Nat.reduceMul, Nat.reduceBEq, Int.reduceToNat, ar59, ld47, cv47_3, ld59, show decide (wideN n = a) = false by simpa using he]
      refine ⟨hEE, ?_⟩
      rw [if_neg]
      intro h2
      exact he (hiff.2 ⟨h2, hn2 h2⟩)
end Go.Id

/-! Contracts: Go's package math/bits; slices.Repeat of one element. -/
namespace Go.Id
open Go

/-- What the listed tables hold. -/
def BaseT (h : IH) : Prop := h.base 0 = some (tab64.map fun n : Nat => Value.int .u8 (n : Int))
theorem BaseT.ext {h h' : IH} (b : BaseT h) (e : Ext h h') : BaseT h' := by unfold BaseT; rw [e.base]; exact b
theorem BaseT.keep {h h' : IH} (b : BaseT h) (e : Keep h h') : BaseT h' := by unfold BaseT; rw [e.base]; exact b
theorem BaseT.row {h : IH} (b : BaseT h) : h.row (2 * 0 + 1) = some (tab64.map fun n : Nat => Value.int .u8 (n : Int)) := by rw [row_odd]; exact b
set_option maxRecDepth 100000 in
theorem tz64_ok {h : IH} (hB : BaseT h) (u : Nat) (h0 : 0 < u) (hu : u < 18446744073709551616) : WV Proofs.Tryd.prog (.func (.func 84) #[] #[]) [K64 u] h fun r h' => h' = h ∧ ∃ k, r = KN k ∧ Low u k ∧ k < 64 := by
  obtain ⟨k, m, rfl⟩ := exists_odd u h0
  have hk := low_lt hu
  have e1 : IntKind.u64.wrap (-((2 ^ k * (2 * m + 1) : Nat) : Int)) = ((18446744073709551616 - 2 ^ k * (2 * m + 1) : Nat) : Int) := by rw [wrapU]; omega
  have e2 := and_neg k m hu
  have e3 : IntKind.u64.wrap (((2 ^ k : Nat) : Int) * 285870213051353865) = ((2 ^ k * 285870213051353865 % 18446744073709551616 : Nat) : Int) := by
    rw [wrapU]; omega
  have e4 : ((2 ^ k * 285870213051353865 % 18446744073709551616 : Nat)) / 288230376151711744 < 64 := by omega
  have e5 : nshr (2 ^ k * 285870213051353865 % 18446744073709551616) 58 = 2 ^ k * 285870213051353865 % 18446744073709551616 / 288230376151711744 := by
    rw [nshr, Nat.shiftRight_eq_div_pow]
  have e6 := tab64_ok k hk
  have hr := hB.row
  generalize hs : 2 ^ k * (2 * m + 1) = s at *
  generalize ht : 2 ^ k * 285870213051353865 % 18446744073709551616 / 288230376151711744 = t at *
  refine enter (nt := 14) (rs := [.tmp 2]) Proofs.Tryd.func84 rfl rfl rfl (by simp) ?_
  simp -dsimp (maxSteps := 1000000) (disch := first | omega | (simp only [new_n, put_n]; omega) | decide +kernel | (repeat first | rw [new_n] | rw [put_n])) only [wpS, wpT, Nat.reduceEqDiff, reduceIte, Nat.reduceLT, Nat.reduceLeDiff, Nat.reduceAdd, Nat.reduceMul, Nat.reduceBEq, Int.reduceToNat, ar163, ld5, cv5_3, e1, e2, e3, e5, ar163, hr, List.getElem?_map, e6]
  exact ⟨k, rfl, by rw [← hs]; exact low_odd k m, hk⟩
theorem tz_ok {h : IH} (hB : BaseT h) (u : Nat) (h0 : 0 < u) (hu : u < 18446744073709551616) : WV Proofs.Tryd.prog (.func (.func 83) #[] #[]) [K64 u] h fun r h' => h' = h ∧ ∃ k, r = KN k ∧ Low u k ∧ k < 64 := by
  refine enter (nt := 8) (rs := [.tmp 2]) Proofs.Tryd.func83 rfl rfl rfl (by simp) ?_
  simp -dsimp (maxSteps := 1000000) (disch := first | omega | (simp only [new_n, put_n]; omega) | decide +kernel | (repeat first | rw [new_n] | rw [put_n])) only [wpS, wpT, Nat.reduceEqDiff, reduceIte, Nat.reduceLT, Nat.reduceLeDiff, Nat.reduceAdd, Nat.reduceMul, Nat.reduceBEq, Int.reduceToNat, cv116_162]
  refine call (tz64_ok hB u h0 hu) ?_
  rintro r h1 ⟨rfl, k, rfl, h2, h3⟩
  simp -dsimp (maxSteps := 1000000) (disch := first | omega | (simp only [new_n, put_n]; omega) | decide +kernel | (repeat first | rw [new_n] | rw [put_n])) only [wpS, wpT, Nat.reduceEqDiff, reduceIte, Nat.reduceLT, Nat.reduceLeDiff, Nat.reduceAdd, Nat.reduceMul, Nat.reduceBEq, Int.reduceToNat, cv116_162]
  exact ⟨k, rfl, h2, h3⟩

/-- What is filled. -/
def fil (n k : Nat) (x : Int) : List Value := (List.range n).map fun j => KI (if j < k then x else 0)
theorem fil_len (n k : Nat) (x : Int) : (fil n k x).length = n := by simp [fil]
theorem fil_zero (n : Nat) (x : Int) : fil n 0 x = repl n [KI 0] := by
  rw [repl_one]
  apply List.ext_getElem
  · simp [fil]
  · intro i h1 h2; simp [fil]
theorem fil_one {n : Nat} (hn : 0 < n) (x : Int) : IH.splice (fil n 0 x) 0 [KI x] = fil n 1 x := by
  apply List.ext_getElem?
  intro j
  rw [get_splice _ _ _ (by rw [fil_len]; simp; omega)]
  by_cases h1 : 0 ≤ j ∧ j < 0 + [KI x].length
  · rw [if_pos h1]
    obtain rfl : j = 0 := by simp at h1; exact h1
    simp [fil, hn]
  · rw [if_neg h1]
    have h2 : ¬ j < 1 := fun hh => h1 ⟨by omega, by simp; omega⟩
    rcases Nat.lt_or_ge j n with h3 | h3
    · have : ¬ j = 0 := by omega
      simp [fil, h3, this]
    · simp [fil, h3]
theorem fil_ok (n k : Nat) (x : Int) {l : List Value} (h : ∀ y ∈ l, y ∈ fil n k x) : l.all cellOK = true := by
  rw [List.all_eq_true]
  intro y hy
  have := h y hy
  simp [fil] at this
  obtain ⟨j, _, rfl⟩ := this
  rfl
theorem fil_get {n k j : Nat} (x : Int) (hj : j < n) : (fil n k x)[j]? = some (KI (if j < k then x else 0)) := by simp [fil, hj]
theorem fil_splice {n k m : Nat} (x : Int) (hm : m ≤ k) (hk : k + m ≤ n) : IH.splice (fil n k x) k ((fil n k x).take m) = fil n (k + m) x := by
  apply List.ext_getElem?
  intro j
  have hl : ((fil n k x).take m).length = m := by rw [List.length_take, fil_len]; omega
  rw [get_splice _ _ _ (by rw [hl, fil_len]; exact hk), hl]
  by_cases hj : j < n
  · rw [fil_get (k := k + m) x hj]
    by_cases h1 : k ≤ j ∧ j < k + m
    · rw [if_pos h1, List.getElem?_take, if_pos (by omega), fil_get x (by omega), if_pos (by omega), if_pos h1.2]
    · rw [if_neg h1, fil_get x hj]
      by_cases h2 : j < k
      · rw [if_pos h2, if_pos (by omega)]
      · rw [if_neg h2, if_neg (by omega)]
  · rw [if_neg (by omega), List.getElem?_eq_none (by rw [fil_len]; omega), List.getElem?_eq_none (by rw [fil_len]; omega)]
theorem mul64_ok {h : IH} (a b : Nat) (ha : a < 4294967296) (hb : b < 4294967296) : WV Proofs.Tryd.prog (.func (.func 114) #[] #[]) [K64 a, K64 b] h fun r h' => h' = h ∧ r = .tuple #[K64 0, K64 (a * b)] := by
  have hab : a * b < 18446744073709551616 := by
    have : a * b ≤ 4294967295 * 4294967295 := Nat.mul_le_mul (by omega) (by omega)
    omega
  have ea : a &&& 4294967295 = a := by rw [Nat.and_two_pow_sub_one_eq_mod a 32]; omega
  have eb : b &&& 4294967295 = b := by rw [Nat.and_two_pow_sub_one_eq_mod b 32]; omega
  have sa : nshr a 32 = 0 := by rw [nshr, Nat.shiftRight_eq_div_pow]; omega
  have sb : nshr b 32 = 0 := by rw [nshr, Nat.shiftRight_eq_div_pow]; omega
  have e3 : nshr (nshr (a * b) 32) 32 = 0 := by rw [nshr, nshr, Nat.shiftRight_eq_div_pow, Nat.shiftRight_eq_div_pow]; omega
  have e4 : nshr (a * b) 32 &&& 4294967295 = nshr (a * b) 32 := by
    rw [Nat.and_two_pow_sub_one_eq_mod _ 32, nshr, Nat.shiftRight_eq_div_pow]; omega
  have e5 := nshr_le (a * b) 32
  have e6 : (a : Int) * (b : Int) = ((a * b : Nat) : Int) := by simp
  generalize hp : a * b = p at *
  generalize hq : nshr p 32 = q at *
  have e7 : ∀ x : Int, (0 : Int) * x = 0 := fun x => Int.zero_mul x
  have e8 : ∀ x : Int, x * (0 : Int) = 0 := fun x => Int.mul_zero x
  refine enter (nt := 51) (rs := [.tmp 4, .tmp 5]) Proofs.Tryd.func114 rfl rfl rfl (by simp) ?_
  simp -dsimp (maxSteps := 1000000) (disch := first | omega | (simp only [new_n, put_n]; omega) | decide +kernel | (repeat first | rw [new_n] | rw [put_n])) only [wpS, wpT, Nat.reduceEqDiff, reduceIte, Nat.reduceLT, Nat.reduceLeDiff, Nat.reduceAdd, Nat.reduceMul, Nat.reduceBEq, Int.reduceToNat, ea, eb, sa, sb, e6, Int.ofNat_zero, Int.natCast_zero, e7, e8, Int.zero_add, Int.add_zero, hq, e3, e4]
  rfl

theorem mul_ok {h : IH} (a b : Nat) (ha : a < 4294967296) (hb : b < 4294967296) : WV Proofs.Tryd.prog (.func (.func 88) #[] #[]) [K64 a, K64 b] h fun r h' => h' = h ∧ r = .tuple #[K64 0, K64 (a * b)] := by
  refine enter (nt := 30) (rs := [.tmp 4, .tmp 5]) Proofs.Tryd.func88 rfl rfl rfl (by simp) ?_
  simp -dsimp (maxSteps := 1000000) (disch := first | omega | (simp only [new_n, put_n]; omega) | decide +kernel | (repeat first | rw [new_n] | rw [put_n])) only [wpS, wpT, Nat.reduceEqDiff, reduceIte, Nat.reduceLT, Nat.reduceLeDiff, Nat.reduceAdd, Nat.reduceMul, Nat.reduceBEq, Int.reduceToNat, cv116_162, cv162_116]
  refine call (mul64_ok a b ha hb) ?_
  rintro _ _ ⟨rfl, rfl⟩
  simp -dsimp (maxSteps := 1000000) (disch := first | omega | (simp only [new_n, put_n]; omega) | decide +kernel | (repeat first | rw [new_n] | rw [put_n])) only [wpS, wpT, Nat.reduceEqDiff, reduceIte, Nat.reduceLT, Nat.reduceLeDiff, Nat.reduceAdd, Nat.reduceMul, Nat.reduceBEq, Int.reduceToNat, cv116_162, cv162_116]
theorem repeat_ok {h : IH} {v : Value} (x : Int) (hs : SlOf h 1 v 1 [KI x]) (n : Nat) (hn : n ≤ 1000000) :
    WV Proofs.Tryd.prog (.func (.func 53) #[] #[]) [v, KI n] h fun r h' => Ext h h' ∧ SlOf h' 1 r n (List.replicate n (KI x)) := by
  have e1 : ((1 : Nat) : Int) = 1 := rfl
  refine enter (nt := 48) (rs := [.tmp 4]) Proofs.Tryd.func53 rfl rfl rfl (by simp) ?_
  simp -dsimp (maxSteps := 1000000) (disch := first | omega | (simp only [new_n, put_n]; omega) | decide +kernel | (repeat first | rw [new_n] | rw [put_n])) only [wpS, wpT, Nat.reduceEqDiff, reduceIte, Nat.reduceLT, Nat.reduceLeDiff, Nat.reduceAdd, Nat.reduceMul, Nat.reduceBEq, Int.reduceToNat, cv3_116, cv116_3, ms33, es33, ln33, sl33, hs.len sl33]
  refine call (mul_ok 1 n (by omega) (by omega)) ?_
  rintro _ _ ⟨rfl, rfl⟩
  rw [Nat.one_mul]
  rename_i h1
  have hE : Ext h1 (h1.new (.cells (repl n [KI 0]) 1 none)) := (Ext.refl h1).new _
  have hnow : SlNow (h1.new (.cells (repl n [KI 0]) 1 none)) 1 v 1 [KI x] := (hs.keep hE.keep).now
  have fin : ∀ h2 : IH, Ext h1 h2 → h1.n < h2.n → h2.ext.get h1.n = some (.cells (fil n n x) 1 none) → SlOf h2 1 (.slice (some ⟨2 * h1.n, 0, none⟩) n (2 * n + 1)) n (List.replicate n (KI x)) := by
    intro h2 _ hlt hg
    have : List.replicate n (KI x) = fil n n x := by
      apply List.ext_getElem
      · simp [fil]
      · intro i a b
        simp [fil]
        intro hh; simp at a; omega
    rw [this]
    exact sl_block hg hlt (by omega) (by rw [fil_len]; omega) (by omega) (by omega)
  rcases Nat.eq_zero_or_pos n with rfl | hp
  · have hcp := copy_none (P := Proofs.Tryd.prog) u33 sz3 (h1.new (.cells (repl 0 [KI 0]) 1 none)) h1.n 0 1 hnow #[33, 33] rfl
    rw [show repl 0 [KI 0] = [] from rfl] at hcp
    simp -dsimp (maxSteps := 1000000) (disch := first | omega | (simp only [new_n, put_n]; omega) | decide +kernel | (repeat first | rw [new_n] | rw [put_n])) only [wpS, wpT, Nat.reduceEqDiff, reduceIte, Nat.reduceLT, Nat.reduceLeDiff, Nat.reduceAdd, Nat.reduceMul, Nat.reduceBEq, Int.reduceToNat, cv3_116, cv116_3, ms33, es33, ln33, sl33, hcp]
    refine loop (fun m fr h2 => h2 = h1.new (.cells [] 1 none) ∧ fget fr 7 = some (.slice (some ⟨2 * h1.n, 0, none⟩) 0 1) ∧ fget fr 8 = some (KI 0)) 0 ⟨rfl, by simp, by simp⟩ ?_
    rintro m fr h2 ⟨rfl, f7, f8⟩
    simp -dsimp (maxSteps := 1000000) (disch := first | omega | (simp only [new_n, put_n]; omega) | decide +kernel | (repeat first | rw [new_n] | rw [put_n])) only [wpS, wpT, Nat.reduceEqDiff, reduceIte, Nat.reduceLT, Nat.reduceLeDiff, Nat.reduceAdd, Nat.reduceMul, Nat.reduceBEq, Int.reduceToNat, cv3_116, cv116_3, ms33, es33, ln33, sl33, f7, f8]
    exact ⟨hE, fin _ hE (by simp) (by rw [get_new_same _ _ rfl]; rfl)⟩
  · have hcp := copy_eq (P := Proofs.Tryd.prog) u33 sz3 (h := h1.new (.cells (fil n 0 x) 1 none)) (k := h1.n) (o := 0) (dn := n) (c := 2 * n + 1) (cs := fil n 0 x) (e2 := 1) (get_new_same _ _ rfl) (sn := 1) (ss := [KI x]) ((hs.keep ((Ext.refl h1).new _).keep).now) (by simp [cellOK, KI]) (by omega) (by rw [fil_len]; omega) #[33, 33] rfl
    have hx1 : IH.splice (fil n 0 x) 0 ([KI x].take (min 1 n * 1)) = fil n 1 x := by
      rw [show min 1 n = 1 by omega]; exact fil_one hp x
    rw [hx1, show ((min 1 n : Nat) : Int) = 1 by omega] at hcp
    have hE2 : Ext h1 ((h1.new (.cells (fil n 0 x) 1 none)).put h1.n (.cells (fil n 1 x) 1 none)) := ((Ext.refl h1).new _).put (Nat.le_refl _) _
    have hg2 : ((h1.new (.cells (fil n 0 x) 1 none)).put h1.n (.cells (fil n 1 x) 1 none)).ext.get h1.n = some (.cells (fil n 1 x) 1 none) := get_put_same _ _ rfl
    have hl2 : h1.n < ((h1.new (.cells (fil n 0 x) 1 none)).put h1.n (.cells (fil n 1 x) 1 none)).n := by simp
    rw [fil_zero] at hcp hE2 hg2 hl2
    simp -dsimp (maxSteps := 1000000) (disch := first | omega | (simp only [new_n, put_n]; omega) | decide +kernel | (repeat first | rw [new_n] | rw [put_n])) only [wpS, wpT, Nat.reduceEqDiff, reduceIte, Nat.reduceLT, Nat.reduceLeDiff, Nat.reduceAdd, Nat.reduceMul, Nat.reduceBEq, Int.reduceToNat, cv3_116, cv116_3, ms33, es33, ln33, sl33, hcp]
    refine loop (fun m fr h3 => ∃ k : Nat, 0 < k ∧ k + m = n ∧ Ext h1 h3 ∧ h1.n < h3.n ∧ h3.ext.get h1.n = some (.cells (fil n k x) 1 none) ∧ fget fr 7 = some (.slice (some ⟨2 * h1.n, 0, none⟩) n (2 * n + 1)) ∧ fget fr 8 = some (KI k)) (n - 1) ⟨1, by omega, by omega, hE2, hl2, hg2, by simp, by simp⟩ ?_
    rintro m fr h3 ⟨k, hk0, hkm, hE3, hl3, hg3, f7, f8⟩
    simp -dsimp (maxSteps := 1000000) (disch := first | omega | (simp only [new_n, put_n]; omega) | decide +kernel | (repeat first | rw [new_n] | rw [put_n])) only [wpS, wpT, Nat.reduceEqDiff, reduceIte, Nat.reduceLT, Nat.reduceLeDiff, Nat.reduceAdd, Nat.reduceMul, Nat.reduceBEq, Int.reduceToNat, cv3_116, cv116_3, ms33, es33, ln33, sl33, f7, f8]
    refine bq_intro ?_ ?_ <;> intro hc2 <;> simp only [bne_iff_ne, beq_iff_eq, decide_eq_true_eq, decide_eq_false_iff_not, bne_eq_false_iff_eq, beq_eq_false_iff_ne, ne_eq, Bool.not_eq_true', Bool.not_eq_false', Bool.not_eq_true, Bool.not_eq_false, Decidable.not_not, Bool.not_not] at hc2
    · have s1 := slice_odd (P := Proofs.Tryd.prog) u33 sz3 h3 (b := 2 * h1.n) (o := 0) (n := n) (k := 2 * n + 1) (l := k) (m := n) (by omega) (by omega) (lo := some (KI k)) (hi := none) (natOf_nat (k := .i64) (by omega)) rfl
      have s2 := slice_odd (P := Proofs.Tryd.prog) u33 sz3 h3 (b := 2 * h1.n) (o := 0) (n := n) (k := 2 * n + 1) (l := 0) (m := k) (by omega) (by omega) (lo := none) (hi := some (KI k)) rfl (natOf_nat (k := .i64) (by omega))
      have hr : h3.row (2 * h1.n) = some (fil n k x) := by rw [row_even]; simp [IH.cells, hg3]
      have hno := slNow_mk (h := h3) (b := 2 * h1.n) (o := 0 + 0 * 1) (n := k - 0) (k := 2 * n + 1 - 2 * 0) (sz := 1) (by omega) hr (by rw [fil_len]; omega)
      have hc3 := copy_eq (P := Proofs.Tryd.prog) u33 sz3 (h := h3) (k := h1.n) (o := 0 + k * 1) (dn := n - k) (c := 2 * n + 1 - 2 * k) (cs := fil n k x) (e2 := 1) hg3 hno (fil_ok _ _ _ fun y hy => List.mem_of_mem_drop (List.mem_of_mem_take hy)) (by omega) (by rw [fil_len]; omega) #[33, 33] rfl
      have hx3 : IH.splice (fil n k x) (0 + k * 1) (((List.drop (0 + 0 * 1) (fil n k x)).take ((k - 0) * 1)).take (min (k - 0) (n - k) * 1)) = fil n (k + min k (n - k)) x := by
        rw [show 0 + 0 * 1 = 0 from rfl, List.drop_zero, List.take_take, show 0 + k * 1 = k by omega, show min (min (k - 0) (n - k) * 1) ((k - 0) * 1) = min k (n - k) by omega]
        exact fil_splice x (by omega) (by omega)
      rw [hx3] at hc3
      simp only [Nat.zero_add, Nat.mul_one, Nat.zero_mul, Nat.mul_zero, Nat.add_zero] at hc3 s1 s2
      simp -dsimp (maxSteps := 1000000) (disch := first | omega | (simp only [new_n, put_n]; omega) | decide +kernel | (repeat first | rw [new_n] | rw [put_n])) only [wpS, wpT, Nat.reduceEqDiff, reduceIte, Nat.reduceLT, Nat.reduceLeDiff, Nat.reduceAdd, Nat.reduceMul, Nat.reduceBEq, Int.reduceToNat, cv3_116, cv116_3, ms33, es33, ln33, sl33, f7, f8, s1, s2, hc3]
      refine ⟨m - min k m, by omega, k + min k m, by omega, by omega, hE3.put (by omega) _, by simp; omega, ?_, by simp [f7], ?_⟩
      · rw [show n - k = m by omega]; exact get_put_same _ _ rfl
      · rw [fget_cons, if_pos rfl]; exact congrArg (fun z => some (Value.int .i64 z)) (by omega)
    · simp -dsimp (maxSteps := 1000000) (disch := first | omega | (simp only [new_n, put_n]; omega) | decide +kernel | (repeat first | rw [new_n] | rw [put_n])) only [wpS, wpT, Nat.reduceEqDiff, reduceIte, Nat.reduceLT, Nat.reduceLeDiff, Nat.reduceAdd, Nat.reduceMul, Nat.reduceBEq, Int.reduceToNat, cv3_116, cv116_3, ms33, es33, ln33, sl33, f7]
      obtain rfl : k = n := by omega
      exact ⟨hE3, fin _ hE3 hl3 hg3⟩
end Go.Id

/-! The rows' common part: the listed table, the drafts, the start. -/
namespace Go.Proofs.YtcmfdbjgimekbaaDoor
open Go.ChangeShapes Go.WideShapes Go.ChangeAt Go.RowKit Go.Id

abbrev laid2 : List (String × DataW Unit) := [("math/bits.deBruijn32tab", Rows.laid_math_bits_deBruijn32tab), ("math/bits.deBruijn64tab", Rows.laid_math_bits_deBruijn64tab)]
theorem Tryd.own : ownKnob Tryd.prog.godebug = none := by kernel_rfl
theorem Tryd.laidOut : laidOutB Tryd.prog = true := by kernel_rfl
theorem Tryd.mapsOut : mapsRowed Tryd.prog = true := by kernel_rfl
theorem Tryd.kids : Kids Tryd.prog (· < Tryd.prog.types.size) := kids_rows Tryd.laidOut Tryd.mapsOut
theorem Tryd.slices : ((List.range Tryd.prog.types.size).all fun t => match Tryd.prog.underlying t with
  | some (.slice e) => decide (0 < Tryd.prog.cellsOf e)
  | _ => true) = true := by kernel_rfl
theorem Tryd.pos {t e : TypeId} (h : t < Tryd.prog.types.size) (hu : Tryd.prog.underlying t = some (.slice e)) : 0 < Tryd.prog.cellsOf e := by
  have := List.all_eq_true.1 Tryd.slices t (by simpa using h)
  rw [hu] at this
  simpa using this
theorem Tryd.sound : Sound (E0 Tryd.prog) := sound0 (by kernel_rfl) (by kernel_rfl)
theorem g64 : Tryd.prog.globalNamed "math/bits.deBruijn64tab" = some 0 := by kernel_rfl
theorem t64 : (Tryd.prog.globals[0]?).map (·.type) = some 163 := by kernel_rfl
theorem c64t : Tryd.prog.cellsOf 163 = 64 := by kernel_rfl
theorem c8t : Tryd.prog.cellsOf 5 = 1 := by kernel_rfl
theorem lits64 : (Rows.laid_math_bits_deBruijn64tab : DataW Unit) = .agg (tab64.map fun n : Nat => .lit (.int .u8 (n : Int))) := by kernel_rfl
/-- The table, as it lies in the world. -/
theorem table_of {W : World} (h : laidMetH Tryd.prog laid2 W) : ∃ c el fz, W.heap[0]? = some (.cells c el fz) ∧ c.toList = tab64.map fun n : Nat => Value.int .u8 (n : Int) := by
  rw [MakeChecks.laidMetH_plain _ _ _ (by kernel_rfl)] at h
  obtain ⟨ps, ⟨g0, t0, cs0, f0, p0, q0, hg0, ht0, hv0, hd0, ⟨g1, t1, cs1, f1, p1, q1, hg1, ht1, hv1, hd1, _, _⟩, _⟩, _, _⟩ := h
  obtain rfl := Option.some.inj (g64.symm.trans hg1)
  obtain rfl := Option.some.inj (t64.symm.trans ht1)
  unfold World.var? at hv1
  rw [g64] at hv1
  simp only [Option.bind_some] at hv1
  split at hv1
  case h_2 => cases hv1
  rename_i c el fz hh
  cases hv1
  refine ⟨_, _, _, hh, ?_⟩
  obtain ⟨xs, m1, rfl, hx1, hlen, hn3, hel⟩ := DataW.trod_array Tryd.underlying163 hd1
  rw [c64t] at hlen
  rw [lits64] at hx1
  simp only [Prod.mk.injEq, DataW.agg.injEq] at hx1
  have hx2 := hx1.1
  apply List.ext_getElem?
  intro i
  by_cases hi : i < 64
  · have h0 := hel i hi
    rw [c8t, Nat.mul_one] at h0
    obtain ⟨x, hx⟩ : ∃ x, xs[i]? = some x := ⟨_, List.getElem?_eq_getElem (by omega)⟩
    rw [hx] at h0
    obtain ⟨n, e1, e2, _⟩ := DataW.trod_int Tryd.underlying5 h0
    have e3 : cs1.toList[i]? = some (.int .u8 n) := by
      have := congrArg (fun l => l[0]?) e1
      simp only [List.getElem?_take, List.getElem?_drop, Nat.add_zero] at this
      simpa using this
    have e4 := congrArg (fun l => l[i]?) hx2
    simp only [List.getElem?_map, hx, Option.map_some, e2] at e4
    rw [e3, List.getElem?_map]
    cases ht : tab64[i]? with
    | none => rw [ht] at e4; simp at e4
    | some k =>
      rw [ht] at e4
      simp at e4
      rw [Option.map_some, e4]
  · rw [List.getElem?_eq_none (by omega), List.getElem?_eq_none (by simp [tab64]; omega)]
end Go.Proofs.YtcmfdbjgimekbaaDoor
