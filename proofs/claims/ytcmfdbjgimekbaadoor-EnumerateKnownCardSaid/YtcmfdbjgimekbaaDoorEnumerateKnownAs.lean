/-
  The statement EnumerateKnown: its regions, one by one.
-/
import Derived.Test.YtcmfdbjgimekbaaDoorEnumerateKnownAr
set_option linter.unusedVariables false
set_option linter.unusedSimpArgs false
set_option linter.defProp false
set_option linter.deprecated false
/-! The statement EnumerateKnown: its regions, one by one. -/
namespace Go.Id
open Go

/-- The types' facts. -/
def tyK := And.intro @bs33 (And.intro @es33 (And.intro @ld3 (And.intro @bv32 (And.intro @pl32_0 (And.intro @bs44 (And.intro @zc59 (And.intro @st59 (And.intro @ld59 (And.intro @bs42 (And.intro @bv35 (And.intro @zc35 (And.intro @st35 (And.intro @fa35_0 (And.intro @ld33 (And.intro @st3 (And.intro @ld35 (And.intro @es38 (And.intro @ld47 (And.intro @ln33 (@ln38))))))))))))))))))))
/-- The parts of a body that is a chain. -/
def nthC : Code → Nat → Code
  | .seq a _, 0 => a
  | .seq _ b, n + 1 => nthC b n
  | c, _ => c
noncomputable def partK (i : Nat) : Code := nthC (Proofs.Tryd.f4.body.getD .skip) i
/-- Between the regions. -/
structure KX (h hh : IH) (fr : Fr) : Prop where
  e : Ext h hh
  b : BaseT hh
  f1 : fget fr 1 = some (.func (.func 19) #[] #[])
theorem KX.of {h hh h3 : IH} {fr fr3 : Fr} (k : KX h hh fr) (e : Ext hh h3) (f : fget fr3 1 = some (.func (.func 19) #[] #[])) : KX h h3 fr3 := ⟨k.e.trans e, k.b.ext e, f⟩
theorem args_full {h : IH} {n : Nat} {v w : Value} {lo hi : Int} {k : Nat} (gr : graphErr n (castE (fullE n)) = 0) (hn : n ≤ 12) (hk : 1 ≤ k ∧ k ≤ 8 ∧ 0 ≤ lo ∧ lo ≤ hi) (hv : SlOf h 2 v (fullE n).length (eCells (castE (fullE n)))) (hw : SlOf h 1 w n (List.replicate n (KI 1))) (h4 : hi ≤ 1000) :
    ArgsAt h n (fullE n) v w (List.replicate n 1) lo hi k := ⟨hv, by simpa using hw, ⟨by omega, by omega⟩, en_ok gr hn hk⟩
theorem args_none {h : IH} {n : Nat} {w : Value} {lo hi : Int} {k : Nat} (gr : graphErr n (castE []) = 0) (hn : n ≤ 12) (hk : 1 ≤ k ∧ k ≤ 8 ∧ 0 ≤ lo ∧ lo ≤ hi) (hw : SlOf h 1 w n (List.replicate n (KI 1))) (h4 : hi ≤ 1000) :
    ArgsAt h n [] (.slice none 0 0) w (List.replicate n 1) lo hi k := ⟨SlOf.nil _ (by decide), by simpa using hw, ⟨by omega, by omega⟩, en_ok gr hn hk⟩
theorem args_path {h : IH} {v w : Value} {lo hi : Int} {k : Nat} (hk : 1 ≤ k ∧ k ≤ 8 ∧ 0 ≤ lo ∧ lo ≤ hi) (hv : SlOf h 2 v 3 (eCells (castE pathE))) (hw : SlOf h 1 w 4 (List.replicate 4 (KI 1))) (h4 : hi ≤ 1000) :
    ArgsAt h 4 pathE v w one4 lo hi k := ⟨hv, hw, ⟨by omega, by omega⟩, ok_path one4 lo hi k rfl one4_ok hk⟩

theorem counts_true {h : IH} (hB : BaseT h) {n : Nat} {E : List (Nat × Nat)} {v w : Value} {ws : List Int} {lo hi : Int} {k : Nat} (a : ArgsAt h n E v w ws lo hi k) (want : Nat) (ht : totalP n E ws lo hi k = want) (hwant : want ≤ 1000000000) :
    WV Proofs.Tryd.prog (.func (.func 20) #[] #[]) [.agg #[KI n, v], .agg #[w, KI lo, KI hi, KI k], KI want] h fun r h' => Ext h h' ∧ r = .bool true := by
  refine (counts_ok hB a want ⟨by omega, by omega⟩).mono ?_
  rintro r h' ⟨e, rfl⟩
  exact ⟨e, by rw [ht]; simp⟩
theorem totalP_400 {n : Nat} {E : List (Nat × Nat)} {ws : List Int} {lo hi : Int} {k : Nat} {qs : List (List Nat)} (h : plansP n E ws lo hi k = qs) (hq : qs.length ≤ 400) : totalP n E ws lo hi k ≤ 400 := by
  have : (plansP n E ws lo hi k).length = totalP n E ws lo hi k := by simp [plansP]
  rw [h] at this; omega
theorem q12a : totalP 12 (fullE 12) (List.replicate 12 1) 0 12 4 = 611501 := total12a
theorem q12b : totalP 12 (fullE 12) (List.replicate 12 1) 3 3 4 = 15400 := total12b
theorem q12c : totalP 12 [] (List.replicate 12 1) 1 1 8 = 0 := total12c
theorem q8 : totalP 8 [] (List.replicate 8 1) 1 1 8 = 1 := total8
theorem q7 : totalP 7 (fullE 7) (List.replicate 7 1) 0 7 3 = 301 := total7
theorem qp12 : planAt (fitsB (fullE 12) (List.replicate 12 1) 0 12) 12 4 12 0 [] 611500 = [0, 1, 2, 3, 3, 3, 3, 3, 3, 3, 3, 3] := plan12
theorem qi12 : idxV (fitsB (fullE 12) (List.replicate 12 1) 0 12) 12 4 [0, 1, 2, 3, 3, 3, 3, 3, 3, 3, 3, 3] = .tuple #[wideV 611500, KI 0] := idxF12
theorem q5 : distL (fitsB (fullE 5) (List.replicate 5 1) 2 2) (2 ^ 5) = [3, 5, 6, 9, 10, 12, 17, 18, 20, 24] := dist5

set_option maxHeartbeats 8000000 in
theorem k10 {h hh : IH} {fr : Fr} {Q : IExit → Fr → IH → Prop} (s : KX h hh fr) : Do (wpC Proofs.Tryd.prog 4 295 none (partK 4) fr hh) (seqK (fun fr h' => Pst (KX h h' fr ∧ fget fr 4 = some (.bool true)) nx) Q) nx := by
  show Do (wpC _ _ _ _ (.region _ _ _) fr hh) _ _
  simp -dsimp (maxSteps := 1000000) (disch := first | omega | (simp only [new_n, put_n]; omega) | decide +kernel | (repeat first | rw [new_n] | rw [put_n])) only [wpS, wpT, Nat.reduceEqDiff, reduceIte, Nat.reduceLT, Nat.reduceLeDiff, Nat.reduceAdd, Nat.reduceMul, Nat.reduceBEq, Int.reduceToNat, tyK, s.f1]
  refine call (full_ok 12 (by decide)) ?_
  rintro _ h1 ⟨e1, v1, rfl, g1⟩
  simp -dsimp (maxSteps := 1000000) (disch := first | omega | (simp only [new_n, put_n]; omega) | decide +kernel | (repeat first | rw [new_n] | rw [put_n])) only [wpS, wpT, Nat.reduceEqDiff, reduceIte, Nat.reduceLT, Nat.reduceLeDiff, Nat.reduceAdd, Nat.reduceMul, Nat.reduceBEq, Int.reduceToNat, tyK]
  refine call (ones_ok 12 0 12 4 (by decide)) ?_
  rintro _ h2 ⟨e2, w2, rfl, o2⟩
  simp -dsimp (maxSteps := 1000000) (disch := first | omega | (simp only [new_n, put_n]; omega) | decide +kernel | (repeat first | rw [new_n] | rw [put_n])) only [wpS, wpT, Nat.reduceEqDiff, reduceIte, Nat.reduceLT, Nat.reduceLeDiff, Nat.reduceAdd, Nat.reduceMul, Nat.reduceBEq, Int.reduceToNat, tyK]
  have x2 := e1.trans e2
  refine call (counts_true (s.b.ext x2) (args_full (k := 4) gr12 (by decide) (by decide) (g1.ext e2) o2 (by decide)) 611501 q12a (by decide)) ?_
  rintro _ h3 ⟨e3, rfl⟩
  have x3 := x2.trans e3
  simp -dsimp (maxSteps := 1000000) (disch := first | omega | (simp only [new_n, put_n]; omega) | decide +kernel | (repeat first | rw [new_n] | rw [put_n])) only [wpS, wpT, Nat.reduceEqDiff, reduceIte, Nat.reduceLT, Nat.reduceLeDiff, Nat.reduceAdd, Nat.reduceMul, Nat.reduceBEq, Int.reduceToNat, tyK, s.f1]
  refine call (full_ok 12 (by decide)) ?_
  rintro _ h4 ⟨e4, v4, rfl, g4⟩
  simp -dsimp (maxSteps := 1000000) (disch := first | omega | (simp only [new_n, put_n]; omega) | decide +kernel | (repeat first | rw [new_n] | rw [put_n])) only [wpS, wpT, Nat.reduceEqDiff, reduceIte, Nat.reduceLT, Nat.reduceLeDiff, Nat.reduceAdd, Nat.reduceMul, Nat.reduceBEq, Int.reduceToNat, tyK]
  refine call (ones_ok 12 3 3 4 (by decide)) ?_
  rintro _ h5 ⟨e5, w5, rfl, o5⟩
  simp -dsimp (maxSteps := 1000000) (disch := first | omega | (simp only [new_n, put_n]; omega) | decide +kernel | (repeat first | rw [new_n] | rw [put_n])) only [wpS, wpT, Nat.reduceEqDiff, reduceIte, Nat.reduceLT, Nat.reduceLeDiff, Nat.reduceAdd, Nat.reduceMul, Nat.reduceBEq, Int.reduceToNat, tyK]
  have x5 := (x3.trans e4).trans e5
  refine call (counts_true (s.b.ext x5) (args_full (k := 4) gr12 (by decide) (by decide) (g4.ext e5) o5 (by decide)) 15400 q12b (by decide)) ?_
  rintro _ h6 ⟨e6, rfl⟩
  have x6 := x5.trans e6
  simp -dsimp (maxSteps := 1000000) (disch := first | omega | (simp only [new_n, put_n]; omega) | decide +kernel | (repeat first | rw [new_n] | rw [put_n])) only [wpS, wpT, Nat.reduceEqDiff, reduceIte, Nat.reduceLT, Nat.reduceLeDiff, Nat.reduceAdd, Nat.reduceMul, Nat.reduceBEq, Int.reduceToNat, tyK, s.f1]
  refine call (ones_ok 12 1 1 8 (by decide)) ?_
  rintro _ h7 ⟨e7, w7, rfl, o7⟩
  simp -dsimp (maxSteps := 1000000) (disch := first | omega | (simp only [new_n, put_n]; omega) | decide +kernel | (repeat first | rw [new_n] | rw [put_n])) only [wpS, wpT, Nat.reduceEqDiff, reduceIte, Nat.reduceLT, Nat.reduceLeDiff, Nat.reduceAdd, Nat.reduceMul, Nat.reduceBEq, Int.reduceToNat, tyK]
  have x7 := x6.trans e7
  refine call (counts_true (s.b.ext x7) (args_none (k := 8) gr0 (by decide) (by decide) o7 (by decide)) 0 q12c (by decide)) ?_
  rintro _ h8 ⟨e8, rfl⟩
  have x8 := x7.trans e8
  simp -dsimp (maxSteps := 1000000) (disch := first | omega | (simp only [new_n, put_n]; omega) | decide +kernel | (repeat first | rw [new_n] | rw [put_n])) only [wpS, wpT, Nat.reduceEqDiff, reduceIte, Nat.reduceLT, Nat.reduceLeDiff, Nat.reduceAdd, Nat.reduceMul, Nat.reduceBEq, Int.reduceToNat, tyK, s.f1]
  refine call (ones_ok 8 1 1 8 (by decide)) ?_
  rintro _ h9 ⟨e9, w9, rfl, o9⟩
  simp -dsimp (maxSteps := 1000000) (disch := first | omega | (simp only [new_n, put_n]; omega) | decide +kernel | (repeat first | rw [new_n] | rw [put_n])) only [wpS, wpT, Nat.reduceEqDiff, reduceIte, Nat.reduceLT, Nat.reduceLeDiff, Nat.reduceAdd, Nat.reduceMul, Nat.reduceBEq, Int.reduceToNat, tyK]
  have x9 := x8.trans e9
  refine call (counts_true (s.b.ext x9) (args_none (k := 8) gr08 (by decide) (by decide) o9 (by decide)) 1 q8 (by decide)) ?_
  rintro _ h10 ⟨e10, rfl⟩
  simp -dsimp (maxSteps := 1000000) (disch := first | omega | (simp only [new_n, put_n]; omega) | decide +kernel | (repeat first | rw [new_n] | rw [put_n])) only [wpS, wpT, Nat.reduceEqDiff, reduceIte, Nat.reduceLT, Nat.reduceLeDiff, Nat.reduceAdd, Nat.reduceMul, Nat.reduceBEq, Int.reduceToNat, tyK, s.f1]
  exact ⟨s.of (x9.trans e10) (by simp [s.f1]), by simp⟩
def pl12 : List Nat := [0, 1, 2, 3, 3, 3, 3, 3, 3, 3, 3, 3]
theorem bs12 (h : IH) : buildSlice Proofs.Tryd.prog h 44 12 [(0, .int .i64 0), (1, .int .i64 1), (2, .int .i64 2), (3, .int .i64 3), (4, .int .i64 3), (5, .int .i64 3), (6, .int .i64 3), (7, .int .i64 3), (8, .int .i64 3), (9, .int .i64 3), (10, .int .i64 3), (11, .int .i64 3)] = some (.slice (some ⟨2 * h.n, 0, none⟩) 12 25, h.new (.cells (pl12.map KN) 1 none)) :=
  (bs44 h 12 _ (by decide)).trans rfl
structure KA (h hh : IH) (fr : Fr) (v5 : Value) : Prop where
  x : KX h hh fr
  f4 : fget fr 4 = some (.bool true)
  f5 : fget fr 5 = some v5
  f6 : fget fr 6 = some (KI 0)
  s5 : SlOf hh 1 v5 12 (i64s pl12)
structure KB (h hh : IH) (fr : Fr) (v5 : Value) (b : Nat) : Prop where
  a : KA h hh fr v5
  f7 : fget fr 7 = some (ptr (2 * b) 0)
  f8 : fget fr 8 = some (KI 0)
  g7 : hh.ext.get b = some (.cells (wdC (wideN 611500)) 0 none)
  l7 : b < hh.n
set_option maxHeartbeats 8000000 in
theorem k11 {h hh : IH} {fr : Fr} {Q : IExit → Fr → IH → Prop} (s : KX h hh fr) (f4 : fget fr 4 = some (.bool true)) : Do (wpC Proofs.Tryd.prog 4 295 none (partK 5) fr hh) (seqK (fun fr h' => Pst (∃ v5, KA h h' fr v5) nx) Q) nx := by
  show Do (wpC _ _ _ _ (.region _ _ _) fr hh) _ _
  simp -dsimp (maxSteps := 1000000) (disch := first | omega | (simp only [new_n, put_n]; omega) | decide +kernel | (repeat first | rw [new_n] | rw [put_n])) only [wpS, wpT, Nat.reduceEqDiff, reduceIte, Nat.reduceLT, Nat.reduceLeDiff, Nat.reduceAdd, Nat.reduceMul, Nat.reduceBEq, Int.reduceToNat, tyK, s.f1]
  refine call (full_ok 12 (by decide)) ?_
  rintro _ h1 ⟨e1, v1, rfl, g1⟩
  simp -dsimp (maxSteps := 1000000) (disch := first | omega | (simp only [new_n, put_n]; omega) | decide +kernel | (repeat first | rw [new_n] | rw [put_n])) only [wpS, wpT, Nat.reduceEqDiff, reduceIte, Nat.reduceLT, Nat.reduceLeDiff, Nat.reduceAdd, Nat.reduceMul, Nat.reduceBEq, Int.reduceToNat, tyK]
  refine call (ones_ok 12 0 12 4 (by decide)) ?_
  rintro _ h2 ⟨e2, w2, rfl, o2⟩
  simp -dsimp (maxSteps := 1000000) (disch := first | omega | (simp only [new_n, put_n]; omega) | decide +kernel | (repeat first | rw [new_n] | rw [put_n])) only [wpS, wpT, Nat.reduceEqDiff, reduceIte, Nat.reduceLT, Nat.reduceLeDiff, Nat.reduceAdd, Nat.reduceMul, Nat.reduceBEq, Int.reduceToNat, tyK]
  refine call (refOf_ok 611500 (by decide)) ?_
  rintro _ h3 ⟨e3, rfl⟩
  simp -dsimp (maxSteps := 1000000) (disch := first | omega | (simp only [new_n, put_n]; omega) | decide +kernel | (repeat first | rw [new_n] | rw [put_n])) only [wpS, wpT, Nat.reduceEqDiff, reduceIte, Nat.reduceLT, Nat.reduceLeDiff, Nat.reduceAdd, Nat.reduceMul, Nat.reduceBEq, Int.reduceToNat, tyK]
  have x3 := (e1.trans e2).trans e3
  refine call (kth_ok (s.b.ext x3) (args_full (k := 4) gr12 (by decide) (by decide) ((g1.ext e2).ext e3) (o2.ext e3) (by decide)) (wideN 611500) (wideN_small (by decide))) ?_
  rintro _ h4 ⟨e4, hr⟩
  rw [wdI_wideN (inW_of64 (by decide)), q12a, if_pos (by decide)] at hr
  obtain ⟨v5, rfl, s5⟩ := hr
  rw [show (611500 : Int).toNat = 611500 from rfl, qp12] at s5
  simp -dsimp (maxSteps := 1000000) (disch := first | omega | (simp only [new_n, put_n]; omega) | decide +kernel | (repeat first | rw [new_n] | rw [put_n])) only [wpS, wpT, Nat.reduceEqDiff, reduceIte, Nat.reduceLT, Nat.reduceLeDiff, Nat.reduceAdd, Nat.reduceMul, Nat.reduceBEq, Int.reduceToNat, tyK, s.f1, f4]
  exact ⟨v5, s.of (x3.trans e4) (by simp [s.f1]), by simp [f4], by simp, by simp, s5⟩
set_option maxHeartbeats 8000000 in
theorem k12 {h hh : IH} {fr : Fr} {Q : IExit → Fr → IH → Prop} {v5 : Value} (s : KA h hh fr v5) : Do (wpC Proofs.Tryd.prog 4 295 none (partK 6) fr hh) (seqK (fun fr h' => Pst (∃ b, KB h h' fr v5 b) nx) Q) nx := by
  show Do (wpC _ _ _ _ (.region _ _ _) fr hh) _ _
  have hspl : ∀ n, IH.splice [.int .u64 0, .int .u64 0, .int .u64 0, .int .u64 0, .int .u64 0, .int .u64 0, .int .u64 0, .int .u64 0] 0 (wdC n) = wdC n := fun n => splice_all (by rw [wdC_len]; rfl)
  simp -dsimp (maxSteps := 1000000) (disch := first | omega | (simp only [new_n, put_n]; omega) | decide +kernel | (repeat first | rw [new_n] | rw [put_n])) only [wpS, wpT, Nat.reduceEqDiff, reduceIte, Nat.reduceLT, Nat.reduceLeDiff, Nat.reduceAdd, Nat.reduceMul, Nat.reduceBEq, Int.reduceToNat, tyK, s.x.f1]
  refine call (full_ok 12 (by decide)) ?_
  rintro _ h1 ⟨e1, v1, rfl, g1⟩
  simp -dsimp (maxSteps := 1000000) (disch := first | omega | (simp only [new_n, put_n]; omega) | decide +kernel | (repeat first | rw [new_n] | rw [put_n])) only [wpS, wpT, Nat.reduceEqDiff, reduceIte, Nat.reduceLT, Nat.reduceLeDiff, Nat.reduceAdd, Nat.reduceMul, Nat.reduceBEq, Int.reduceToNat, tyK]
  refine call (ones_ok 12 0 12 4 (by decide)) ?_
  rintro _ h2 ⟨e2, w2, rfl, o2⟩
  simp -dsimp (maxSteps := 1000000) (disch := first | omega | (simp only [new_n, put_n]; omega) | decide +kernel | (repeat first | rw [new_n] | rw [put_n])) only [wpS, wpT, Nat.reduceEqDiff, reduceIte, Nat.reduceLT, Nat.reduceLeDiff, Nat.reduceAdd, Nat.reduceMul, Nat.reduceBEq, Int.reduceToNat, bs33, es33, ld3, bv32, pl32_0, zc59, st59, ld59, bs42, bv35, zc35, st35, fa35_0, ld33, st3, ld35, es38, ld47, ln33, ln38, bs12]
  have n2 : Ext h2 (h2.new (.cells (pl12.map KN) 1 none)) := (Ext.refl h2).new _
  have x2 := (e1.trans e2).trans n2
  refine call (index_ok (p := [0, 1, 2, 3, 3, 3, 3, 3, 3, 3, 3, 3]) (s.x.b.ext x2) (args_full (k := 4) gr12 (by decide) (by decide) ((g1.ext e2).ext n2) (o2.ext n2) (by decide)) (sl_block (k := h2.n) (f := none) (get_new_same _ _ rfl) (by simp only [new_n]; omega) (by decide) rfl (by decide) (by decide))) ?_
  rintro _ h3 ⟨e3, rfl⟩
  rw [qi12]
  simp -dsimp (maxSteps := 1000000) (disch := first | omega | (simp only [new_n, put_n]; omega) | decide +kernel | (repeat first | rw [new_n] | rw [put_n])) only [wpS, wpT, Nat.reduceEqDiff, reduceIte, Nat.reduceLT, Nat.reduceLeDiff, Nat.reduceAdd, Nat.reduceMul, Nat.reduceBEq, Int.reduceToNat, tyK, wdV_form, wdC_len, wdC_all, hspl, wd_take, s.x.f1]
  have eB : Ext h3 ((h3.new (.cells [.int .u64 0, .int .u64 0, .int .u64 0, .int .u64 0, .int .u64 0, .int .u64 0, .int .u64 0, .int .u64 0] 0 none)).put h3.n (.cells (wdC (wideN 611500)) 0 none)) := ((Ext.refl h3).new _).put (Nat.le_refl _) _
  have xx := (x2.trans e3).trans eB
  exact ⟨h3.n, ⟨s.x.of xx (by simp [s.x.f1]), by simp [s.f4], by simp [s.f5], by simp [s.f6], s.s5.ext xx⟩, by simp, by simp, get_put_same _ _ rfl, by simp only [new_n, put_n]; omega⟩
set_option maxHeartbeats 8000000 in
theorem k13 {h hh : IH} {fr : Fr} {Q : IExit → Fr → IH → Prop} {v5 : Value} {b : Nat} (s : KB h hh fr v5 b) : Do (wpC Proofs.Tryd.prog 4 295 none (partK 7) fr hh) (seqK (fun fr h' => Pst (KB h h' fr v5 b ∧ fget fr 10 = some (KI 2)) nx) Q) nx := by
  show Do (wpC _ _ _ _ (.region _ _ _) fr hh) _ _
  simp -dsimp (maxSteps := 1000000) (disch := first | omega | (simp only [new_n, put_n]; omega) | decide +kernel | (repeat first | rw [new_n] | rw [put_n])) only [wpS, wpT, Nat.reduceEqDiff, reduceIte, Nat.reduceLT, Nat.reduceLeDiff, Nat.reduceAdd, Nat.reduceMul, Nat.reduceBEq, Int.reduceToNat, tyK, s.a.x.f1]
  refine call (full_ok 12 (by decide)) ?_
  rintro _ h1 ⟨e1, v1, rfl, g1⟩
  simp -dsimp (maxSteps := 1000000) (disch := first | omega | (simp only [new_n, put_n]; omega) | decide +kernel | (repeat first | rw [new_n] | rw [put_n])) only [wpS, wpT, Nat.reduceEqDiff, reduceIte, Nat.reduceLT, Nat.reduceLeDiff, Nat.reduceAdd, Nat.reduceMul, Nat.reduceBEq, Int.reduceToNat, tyK]
  refine call (ones_ok 12 0 12 4 (by decide)) ?_
  rintro _ h2 ⟨e2, w2, rfl, o2⟩
  simp -dsimp (maxSteps := 1000000) (disch := first | omega | (simp only [new_n, put_n]; omega) | decide +kernel | (repeat first | rw [new_n] | rw [put_n])) only [wpS, wpT, Nat.reduceEqDiff, reduceIte, Nat.reduceLT, Nat.reduceLeDiff, Nat.reduceAdd, Nat.reduceMul, Nat.reduceBEq, Int.reduceToNat, tyK]
  refine call (refOf_ok 611501 (by decide)) ?_
  rintro _ h3 ⟨e3, rfl⟩
  simp -dsimp (maxSteps := 1000000) (disch := first | omega | (simp only [new_n, put_n]; omega) | decide +kernel | (repeat first | rw [new_n] | rw [put_n])) only [wpS, wpT, Nat.reduceEqDiff, reduceIte, Nat.reduceLT, Nat.reduceLeDiff, Nat.reduceAdd, Nat.reduceMul, Nat.reduceBEq, Int.reduceToNat, tyK]
  have x3 := (e1.trans e2).trans e3
  refine call (kth_ok (s.a.x.b.ext x3) (args_full (k := 4) gr12 (by decide) (by decide) ((g1.ext e2).ext e3) (o2.ext e3) (by decide)) (wideN 611501) (wideN_small (by decide))) ?_
  rintro _ h4 ⟨e4, hr⟩
  rw [wdI_wideN (inW_of64 (by decide)), q12a, if_neg (by decide)] at hr
  subst hr
  simp -dsimp (maxSteps := 1000000) (disch := first | omega | (simp only [new_n, put_n]; omega) | decide +kernel | (repeat first | rw [new_n] | rw [put_n])) only [wpS, wpT, Nat.reduceEqDiff, reduceIte, Nat.reduceLT, Nat.reduceLeDiff, Nat.reduceAdd, Nat.reduceMul, Nat.reduceBEq, Int.reduceToNat, tyK, s.a.x.f1]
  have x4 := x3.trans e4
  exact ⟨⟨⟨s.a.x.of x4 (by simp [s.a.x.f1]), by simp [s.a.f4], by simp [s.a.f5], by simp [s.a.f6], s.a.s5.ext x4⟩, by simp [s.f7], by simp [s.f8], by rw [x4.get _ s.l7]; exact s.g7, Nat.lt_of_lt_of_le s.l7 x4.n⟩, by simp⟩
/-- Four facts so far. -/
structure KD (h hh : IH) (fr : Fr) : Prop where
  x : KX h hh fr
  f4 : fget fr 4 = some (.bool true)
  f11 : fget fr 11 = some (.bool true)
set_option maxHeartbeats 8000000 in
theorem k14 {h hh : IH} {fr : Fr} {Q : IExit → Fr → IH → Prop} {v5 : Value} {b : Nat} (s : KB h hh fr v5 b) (f10 : fget fr 10 = some (KI 2)) : Do (wpC Proofs.Tryd.prog 4 295 none (partK 8) fr hh) (seqK (fun fr h' => Pst (KD h h' fr) nx) Q) nx := by
  show Do (wpC _ _ _ _ (.region _ _ _) fr hh) _ _
  have hspl : ∀ n, IH.splice [.int .u64 0, .int .u64 0, .int .u64 0, .int .u64 0, .int .u64 0, .int .u64 0, .int .u64 0, .int .u64 0] 0 (wdC n) = wdC n := fun n => splice_all (by rw [wdC_len]; rfl)
  have r7 : hh.row (2 * b) = some (wdC (wideN 611500)) := by rw [row_even]; simp only [IH.cells, s.g7]
  refine drawn [(12, [21])] (by kernel_rfl) (by kernel_rfl) rfl ?_
  simp -dsimp (maxSteps := 1000000) (disch := first | omega | (simp only [new_n, put_n]; omega) | decide +kernel | (repeat first | rw [new_n] | rw [put_n])) only [wpS, wpT, Nat.reduceEqDiff, reduceIte, Nat.reduceLT, Nat.reduceLeDiff, Nat.reduceAdd, Nat.reduceMul, Nat.reduceBEq, Int.reduceToNat, bs33, es33, ld3, bv32, pl32_0, zc59, st59, ld59, bs42, bv35, zc35, st35, fa35_0, ld33, st3, ld35, es38, ld47, ln33, ln38, s.a.x.f1, s.a.f6, s.a.f5, bs12]
  have m1 : Ext hh (hh.new (.cells (pl12.map KN) 1 none)) := (Ext.refl hh).new _
  have s1 : SlOf (hh.new (.cells (pl12.map KN) 1 none)) 1 (.slice (some ⟨2 * hh.n, 0, none⟩) 12 25) 12 (([0, 1, 2, 3, 3, 3, 3, 3, 3, 3, 3, 3] : List Int).map KI) := sl_block (k := hh.n) (f := none) (get_new_same _ _ rfl) (by simp only [new_n]; omega) (by decide) rfl (by decide) (by decide)
  refine call (equalP_ok (a := [0, 1, 2, 3, 3, 3, 3, 3, 3, 3, 3, 3]) (b := [0, 1, 2, 3, 3, 3, 3, 3, 3, 3, 3, 3]) (s.a.s5.ext m1).now s1.now (by decide) (fun x _ y _ o1 o2 => neqI x y _ _ o1 o2)) ?_
  rintro _ h2 ⟨hh2, rfl⟩
  rw [hh2, decide_eq_true rfl]
  have hb := s.l7
  have r7' : (hh.new (.cells (pl12.map KN) 1 none)).row (2 * b) = some (wdC (wideN 611500)) := by rw [m1.row (.inr (by omega))]; exact r7
  simp -dsimp (maxSteps := 1000000) (disch := first | omega | (simp only [new_n, put_n]; omega) | decide +kernel | (repeat first | rw [new_n] | rw [put_n])) only [wpS, wpT, Nat.reduceEqDiff, reduceIte, Nat.reduceLT, Nat.reduceLeDiff, Nat.reduceAdd, Nat.reduceMul, Nat.reduceBEq, Int.reduceToNat, tyK, s.f7, s.f8, r7', wdC_len, wd_take]
  refine call (refOf_ok 611500 (by decide)) ?_
  rintro _ h3 ⟨e3, rfl⟩
  have hq4 : ∀ ox oy, binop Proofs.Tryd.prog .eql 59 ox oy (.agg (wdC (wideN 611500)).toArray) (wideV 611500) = some (.bool true) := fun ox oy => by
    have := wd_eql (wideN_small (show In64 611500 by decide)) (wideN_small (show In64 611500 by decide)) ox oy
    rw [decide_eq_true rfl] at this
    exact this
  have r7'' : h3.row (2 * b) = some (wdC (wideN 611500)) := by rw [(m1.trans e3).row (.inr (by omega))]; exact r7
  simp -dsimp (maxSteps := 1000000) (disch := first | omega | (simp only [new_n, put_n]; omega) | decide +kernel | (repeat first | rw [new_n] | rw [put_n])) only [wpS, wpT, Nat.reduceEqDiff, reduceIte, Nat.reduceLT, Nat.reduceLeDiff, Nat.reduceAdd, Nat.reduceMul, Nat.reduceBEq, Int.reduceToNat, tyK, hq4, f10]
  refine ⟨wpSteady_one rfl rfl rfl rfl (steady_load (av := ptr (2 * b) 0) (v := wideV 611500) ?_ ?_ ?_), ?_⟩
  · simp -dsimp (maxSteps := 1000000) (disch := first | omega | (simp only [new_n, put_n]; omega) | decide +kernel | (repeat first | rw [new_n] | rw [put_n])) only [wpS, wpT, Nat.reduceEqDiff, reduceIte, Nat.reduceLT, Nat.reduceLeDiff, Nat.reduceAdd, Nat.reduceMul, Nat.reduceBEq, Int.reduceToNat, tyK, s.f7]
  · simp -dsimp (maxSteps := 1000000) (disch := first | omega | (simp only [new_n, put_n]; omega) | decide +kernel | (repeat first | rw [new_n] | rw [put_n])) only [wpS, wpT, Nat.reduceEqDiff, reduceIte, Nat.reduceLT, Nat.reduceLeDiff, Nat.reduceAdd, Nat.reduceMul, Nat.reduceBEq, Int.reduceToNat, tyK, r7', wdC_len, wd_take]
    rfl
  · simp -dsimp (maxSteps := 1000000) (disch := first | omega | (simp only [new_n, put_n]; omega) | decide +kernel | (repeat first | rw [new_n] | rw [put_n])) only [wpS, wpT, Nat.reduceEqDiff, reduceIte, Nat.reduceLT, Nat.reduceLeDiff, Nat.reduceAdd, Nat.reduceMul, Nat.reduceBEq, Int.reduceToNat, tyK, r7'', wdC_len, wd_take]
    rfl
  simp -dsimp (maxSteps := 1000000) (disch := first | omega | (simp only [new_n, put_n]; omega) | decide +kernel | (repeat first | rw [new_n] | rw [put_n])) only [wpS, wpT, Nat.reduceEqDiff, reduceIte, Nat.reduceLT, Nat.reduceLeDiff, Nat.reduceAdd, Nat.reduceMul, Nat.reduceBEq, Int.reduceToNat, tyK]
  exact ⟨s.a.x.of (m1.trans e3) (by simp [s.a.x.f1]), by simp [s.a.f4], by simp⟩
structure KE (h hh : IH) (fr : Fr) : Prop where
  d : KD h hh fr
  f12 : fget fr 12 = some (.bool true)
theorem ones1 : (List.replicate 1 (1 : Int)) = [1] := rfl
set_option maxHeartbeats 8000000 in
theorem k15 {h hh : IH} {fr : Fr} {Q : IExit → Fr → IH → Prop} (s : KD h hh fr) : Do (wpC Proofs.Tryd.prog 4 295 none (partK 9) fr hh) (seqK (fun fr h' => Pst (KE h h' fr) nx) Q) nx := by
  show Do (wpC _ _ _ _ (.region _ _ _) fr hh) _ _
  simp -dsimp (maxSteps := 1000000) (disch := first | omega | (simp only [new_n, put_n]; omega) | decide +kernel | (repeat first | rw [new_n] | rw [put_n])) only [wpS, wpT, Nat.reduceEqDiff, reduceIte, Nat.reduceLT, Nat.reduceLeDiff, Nat.reduceAdd, Nat.reduceMul, Nat.reduceBEq, Int.reduceToNat, tyK]
  refine call (ones_ok 1 0 1 1 (by decide)) ?_
  rintro _ h1 ⟨e1, w1, rfl, o1⟩
  simp -dsimp (maxSteps := 1000000) (disch := first | omega | (simp only [new_n, put_n]; omega) | decide +kernel | (repeat first | rw [new_n] | rw [put_n])) only [wpS, wpT, Nat.reduceEqDiff, reduceIte, Nat.reduceLT, Nat.reduceLeDiff, Nat.reduceAdd, Nat.reduceMul, Nat.reduceBEq, Int.reduceToNat, tyK]
  have n1 : Ext h1 ((h1.new (.cells [.int .i64 0] 1 none)).new (.cells [.slice (some ⟨2 * h1.n, 0, none⟩) 1 3] 1 none)) := ((Ext.refl h1).new _).new _
  have p1 : PlansAt ((h1.new (.cells [.int .i64 0] 1 none)).new (.cells [.slice (some ⟨2 * h1.n, 0, none⟩) 1 3] 1 none)) (.slice (some ⟨2 * (h1.n + 1), 0, none⟩) 1 3) [[0]] := by
    refine ⟨[.slice (some ⟨2 * h1.n, 0, none⟩) 1 3], sl_block (k := h1.n + 1) (f := none) ?_ (by simp only [new_n]; omega) (by decide) rfl (by decide) (by decide), ?_⟩
    · simp (disch := first | omega | (simp only [new_n, put_n]; omega) | (repeat first | rw [new_n] | rw [put_n])) only [get_new_same, get_new_old, get_put_same, get_put_old]
    intro i p hp
    match i, hp with
    | 0, hp =>
      cases hp
      refine ⟨_, rfl, sl_block (k := h1.n) (f := none) ?_ (by simp only [new_n]; omega) (by decide) rfl (by decide) (by decide)⟩
      simp (disch := first | omega | (simp only [new_n, put_n]; omega) | (repeat first | rw [new_n] | rw [put_n])) only [get_new_same, get_new_old, get_put_same, get_put_old]
      rfl
    | i + 1, hp => simp at hp
  have x1 := e1.trans n1
  refine call (lists_ok (s.x.b.ext x1) (args_none (k := 1) gr01 (by decide) (by decide) (o1.ext n1) (by decide)) p1 (by decide)) ?_
  rintro _ h2 ⟨e2, rfl⟩
  rw [decide_eq_true ⟨totalP_400 one_a (by decide), one_a⟩]
  have x2 := x1.trans e2
  simp -dsimp (maxSteps := 1000000) (disch := first | omega | (simp only [new_n, put_n]; omega) | decide +kernel | (repeat first | rw [new_n] | rw [put_n])) only [wpS, wpT, Nat.reduceEqDiff, reduceIte, Nat.reduceLT, Nat.reduceLeDiff, Nat.reduceAdd, Nat.reduceMul, Nat.reduceBEq, Int.reduceToNat, tyK]
  refine call (ones_ok 1 0 1 2 (by decide)) ?_
  rintro _ h3 ⟨e3, w3, rfl, o3⟩
  simp -dsimp (maxSteps := 1000000) (disch := first | omega | (simp only [new_n, put_n]; omega) | decide +kernel | (repeat first | rw [new_n] | rw [put_n])) only [wpS, wpT, Nat.reduceEqDiff, reduceIte, Nat.reduceLT, Nat.reduceLeDiff, Nat.reduceAdd, Nat.reduceMul, Nat.reduceBEq, Int.reduceToNat, tyK]
  have x3 := x2.trans e3
  have pn : ∀ hq : IH, PlansAt hq (.slice none 0 0) [] := fun hq => ⟨[], SlOf.nil _ (by decide), fun i p hp => by simp at hp⟩
  refine call (lists_ok (s.x.b.ext x3) (args_none (k := 2) gr01 (by decide) (by decide) o3 (by decide)) (pn _) (by decide)) ?_
  rintro _ h4 ⟨e4, rfl⟩
  rw [decide_eq_true ⟨totalP_400 one_b (by decide), one_b⟩]
  have x4 := x3.trans e4
  simp -dsimp (maxSteps := 1000000) (disch := first | omega | (simp only [new_n, put_n]; omega) | decide +kernel | (repeat first | rw [new_n] | rw [put_n])) only [wpS, wpT, Nat.reduceEqDiff, reduceIte, Nat.reduceLT, Nat.reduceLeDiff, Nat.reduceAdd, Nat.reduceMul, Nat.reduceBEq, Int.reduceToNat, tyK]
  refine call path_ok ?_
  rintro _ h5 ⟨e5, v5, rfl, g5⟩
  simp -dsimp (maxSteps := 1000000) (disch := first | omega | (simp only [new_n, put_n]; omega) | decide +kernel | (repeat first | rw [new_n] | rw [put_n])) only [wpS, wpT, Nat.reduceEqDiff, reduceIte, Nat.reduceLT, Nat.reduceLeDiff, Nat.reduceAdd, Nat.reduceMul, Nat.reduceBEq, Int.reduceToNat, tyK]
  refine call (ones_ok 4 5 9 1 (by decide)) ?_
  rintro _ h6 ⟨e6, w6, rfl, o6⟩
  simp -dsimp (maxSteps := 1000000) (disch := first | omega | (simp only [new_n, put_n]; omega) | decide +kernel | (repeat first | rw [new_n] | rw [put_n])) only [wpS, wpT, Nat.reduceEqDiff, reduceIte, Nat.reduceLT, Nat.reduceLeDiff, Nat.reduceAdd, Nat.reduceMul, Nat.reduceBEq, Int.reduceToNat, tyK]
  have x6 := (x4.trans e5).trans e6
  refine call (lists_ok (s.x.b.ext x6) (args_path (k := 1) (by decide) (g5.ext e6) o6 (by decide)) (pn _) (by decide)) ?_
  rintro _ h7 ⟨e7, rfl⟩
  rw [decide_eq_true ⟨totalP_400 one_c (by decide), one_c⟩]
  have x7 := x6.trans e7
  simp -dsimp (maxSteps := 1000000) (disch := first | omega | (simp only [new_n, put_n]; omega) | decide +kernel | (repeat first | rw [new_n] | rw [put_n])) only [wpS, wpT, Nat.reduceEqDiff, reduceIte, Nat.reduceLT, Nat.reduceLeDiff, Nat.reduceAdd, Nat.reduceMul, Nat.reduceBEq, Int.reduceToNat, tyK]
  refine call path_ok ?_
  rintro _ h8 ⟨e8, v8, rfl, g8⟩
  simp -dsimp (maxSteps := 1000000) (disch := first | omega | (simp only [new_n, put_n]; omega) | decide +kernel | (repeat first | rw [new_n] | rw [put_n])) only [wpS, wpT, Nat.reduceEqDiff, reduceIte, Nat.reduceLT, Nat.reduceLeDiff, Nat.reduceAdd, Nat.reduceMul, Nat.reduceBEq, Int.reduceToNat, tyK]
  refine call (ones_ok 4 0 4 1 (by decide)) ?_
  rintro _ h9 ⟨e9, w9, rfl, o9⟩
  simp -dsimp (maxSteps := 1000000) (disch := first | omega | (simp only [new_n, put_n]; omega) | decide +kernel | (repeat first | rw [new_n] | rw [put_n])) only [wpS, wpT, Nat.reduceEqDiff, reduceIte, Nat.reduceLT, Nat.reduceLeDiff, Nat.reduceAdd, Nat.reduceMul, Nat.reduceBEq, Int.reduceToNat, tyK]
  have n9 : Ext h9 ((h9.new (.cells [.int .i64 0, .int .i64 0, .int .i64 0, .int .i64 0] 1 none)).new (.cells [.slice (some ⟨2 * h9.n, 0, none⟩) 4 9] 1 none)) := ((Ext.refl h9).new _).new _
  have p9 : PlansAt ((h9.new (.cells [.int .i64 0, .int .i64 0, .int .i64 0, .int .i64 0] 1 none)).new (.cells [.slice (some ⟨2 * h9.n, 0, none⟩) 4 9] 1 none)) (.slice (some ⟨2 * (h9.n + 1), 0, none⟩) 1 3) [[0, 0, 0, 0]] := by
    refine ⟨[.slice (some ⟨2 * h9.n, 0, none⟩) 4 9], sl_block (k := h9.n + 1) (f := none) ?_ (by simp only [new_n]; omega) (by decide) rfl (by decide) (by decide), ?_⟩
    · simp (disch := first | omega | (simp only [new_n, put_n]; omega) | (repeat first | rw [new_n] | rw [put_n])) only [get_new_same, get_new_old, get_put_same, get_put_old]
    intro i p hp
    match i, hp with
    | 0, hp =>
      cases hp
      refine ⟨_, rfl, sl_block (k := h9.n) (f := none) ?_ (by simp only [new_n]; omega) (by decide) rfl (by decide) (by decide)⟩
      simp (disch := first | omega | (simp only [new_n, put_n]; omega) | (repeat first | rw [new_n] | rw [put_n])) only [get_new_same, get_new_old, get_put_same, get_put_old]
      rfl
    | i + 1, hp => simp at hp
  have x9 := ((x7.trans e8).trans e9).trans n9
  refine call (lists_ok (s.x.b.ext x9) (args_path (k := 1) (by decide) ((g8.ext e9).ext n9) (o9.ext n9) (by decide)) p9 (by decide)) ?_
  rintro _ h10 ⟨e10, rfl⟩
  rw [decide_eq_true ⟨totalP_400 one_d (by decide), one_d⟩]
  simp -dsimp (maxSteps := 1000000) (disch := first | omega | (simp only [new_n, put_n]; omega) | decide +kernel | (repeat first | rw [new_n] | rw [put_n])) only [wpS, wpT, Nat.reduceEqDiff, reduceIte, Nat.reduceLT, Nat.reduceLeDiff, Nat.reduceAdd, Nat.reduceMul, Nat.reduceBEq, Int.reduceToNat, tyK]
  exact ⟨⟨s.x.of (x9.trans e10) (by simp [s.x.f1]), by simp [s.f4], by simp [s.f11]⟩, by simp⟩
structure KF (h hh : IH) (fr : Fr) : Prop where
  e : KE h hh fr
  f13 : fget fr 13 = some (.func (.func 27) #[] #[])
set_option maxHeartbeats 8000000 in
theorem k16 {h hh : IH} {fr : Fr} {Q : IExit → Fr → IH → Prop} (s : KE h hh fr) : Do (wpC Proofs.Tryd.prog 4 295 none (partK 10) fr hh) (seqK (fun fr h' => Pst (KF h h' fr) nx) Q) nx := by
  show Do (wpC _ _ _ _ (.region _ _ _) fr hh) _ _
  simp -dsimp (maxSteps := 1000000) (disch := first | omega | (simp only [new_n, put_n]; omega) | decide +kernel | (repeat first | rw [new_n] | rw [put_n])) only [wpS, wpT, Nat.reduceEqDiff, reduceIte, Nat.reduceLT, Nat.reduceLeDiff, Nat.reduceAdd, Nat.reduceMul, Nat.reduceBEq, Int.reduceToNat, tyK]
  exact ⟨⟨⟨s.d.x.of (Ext.refl _) (by simp [s.d.x.f1]), by simp [s.d.f4], by simp [s.d.f11]⟩, by simp [s.f12]⟩, by simp⟩
theorem bad_eq {h : IH} {n : Int} {E : List (Int × Int)} {v w : Value} {ws : List Int} {lo hi d : Int} (b : BadAt h n E v w ws lo hi d) (want : Int) (he : enErr n E ws lo hi d = want) :
    WV Proofs.Tryd.prog (.func (.func 27) #[] #[]) [.agg #[KI n, v], .agg #[w, KI lo, KI hi, KI d], KI want] h fun r h' => Ext h h' ∧ r = .bool true := by
  subst he; exact bad_ok b
theorem bad_path {h : IH} {v w : Value} (ws : List Int) {lo hi d : Int} (gv : SlOf h 2 v 3 (eCells (castE pathE))) (gw : SlOf h 1 w ws.length (ws.map KI)) (hw : ws.length ≤ 100 ∧ ∀ x ∈ ws, In64 x) (hb : In64 lo ∧ In64 hi ∧ In64 d) (he : enErr 4 (castE pathE) ws lo hi d = 2) :
    WV Proofs.Tryd.prog (.func (.func 27) #[] #[]) [.agg #[KI ((4 : Nat) : Int), v], .agg #[w, KI lo, KI hi, KI d], KI 2] h fun r h' => Ext h h' ∧ r = .bool true :=
  bad_eq ⟨by decide, gv, by decide, by decide, gw, by omega, hw.2, hb.1, hb.2.1, hb.2.2, by rw [show ((4 : Nat) : Int) = 4 from rfl, he]; decide⟩ 2 he
theorem bad_zero {h : IH} (n want : Int) (hn : In64 n) (he : enErr n [] [] 0 0 0 = want) (hw : want ≠ 0) :
    WV Proofs.Tryd.prog (.func (.func 27) #[] #[]) [.agg #[KI n, .slice none 0 0], .agg #[.slice none 0 0, KI 0, KI 0, KI 0], KI want] h fun r h' => Ext h h' ∧ r = .bool true :=
  bad_eq ⟨hn, SlOf.nil _ (by decide), by decide, by simp, SlOf.nil _ (by decide), by decide, by simp, by decide, by decide, by decide, by rw [he]; exact hw⟩ want he
structure KG (h hh : IH) (fr : Fr) : Prop where
  f : KF h hh fr
  f14 : fget fr 14 = some (.bool true)
set_option maxHeartbeats 8000000 in
theorem k17 {h hh : IH} {fr : Fr} {Q : IExit → Fr → IH → Prop} (s : KF h hh fr) : Do (wpC Proofs.Tryd.prog 4 295 none (partK 11) fr hh) (seqK (fun fr h' => Pst (KG h h' fr) nx) Q) nx := by
  show Do (wpC _ _ _ _ (.region _ _ _) fr hh) _ _
  simp -dsimp (maxSteps := 1000000) (disch := first | omega | (simp only [new_n, put_n]; omega) | decide +kernel | (repeat first | rw [new_n] | rw [put_n])) only [wpS, wpT, Nat.reduceEqDiff, reduceIte, Nat.reduceLT, Nat.reduceLeDiff, Nat.reduceAdd, Nat.reduceMul, Nat.reduceBEq, Int.reduceToNat, tyK, s.f13]
  refine call (bad_zero 0 180 (by decide) (by decide +kernel) (by decide)) ?_
  rintro _ h1 ⟨e1, rfl⟩
  simp -dsimp (maxSteps := 1000000) (disch := first | omega | (simp only [new_n, put_n]; omega) | decide +kernel | (repeat first | rw [new_n] | rw [put_n])) only [wpS, wpT, Nat.reduceEqDiff, reduceIte, Nat.reduceLT, Nat.reduceLeDiff, Nat.reduceAdd, Nat.reduceMul, Nat.reduceBEq, Int.reduceToNat, tyK, s.f13]
  refine call (bad_zero 13 3 (by decide) (by decide +kernel) (by decide)) ?_
  rintro _ h2 ⟨e2, rfl⟩
  have x2 := e1.trans e2
  simp -dsimp (maxSteps := 1000000) (disch := first | omega | (simp only [new_n, put_n]; omega) | decide +kernel | (repeat first | rw [new_n] | rw [put_n])) only [wpS, wpT, Nat.reduceEqDiff, reduceIte, Nat.reduceLT, Nat.reduceLeDiff, Nat.reduceAdd, Nat.reduceMul, Nat.reduceBEq, Int.reduceToNat, tyK, s.f13]
  refine call path_ok ?_
  rintro _ h3 ⟨e3, v3, rfl, g3⟩
  simp -dsimp (maxSteps := 1000000) (disch := first | omega | (simp only [new_n, put_n]; omega) | decide +kernel | (repeat first | rw [new_n] | rw [put_n])) only [wpS, wpT, Nat.reduceEqDiff, reduceIte, Nat.reduceLT, Nat.reduceLeDiff, Nat.reduceAdd, Nat.reduceMul, Nat.reduceBEq, Int.reduceToNat, tyK, s.f13]
  refine call (ones_ok 3 0 1 1 (by decide)) ?_
  rintro _ h4 ⟨e4, w4, rfl, o4⟩
  simp -dsimp (maxSteps := 1000000) (disch := first | omega | (simp only [new_n, put_n]; omega) | decide +kernel | (repeat first | rw [new_n] | rw [put_n])) only [wpS, wpT, Nat.reduceEqDiff, reduceIte, Nat.reduceLT, Nat.reduceLeDiff, Nat.reduceAdd, Nat.reduceMul, Nat.reduceBEq, Int.reduceToNat, tyK, s.f13]
  refine call (bad_path (List.replicate 3 1) (g3.ext e4) o4 (by decide) (by decide) (by decide +kernel)) ?_
  rintro _ h5 ⟨e5, rfl⟩
  have x5 := ((x2.trans e3).trans e4).trans e5
  simp -dsimp (maxSteps := 1000000) (disch := first | omega | (simp only [new_n, put_n]; omega) | decide +kernel | (repeat first | rw [new_n] | rw [put_n])) only [wpS, wpT, Nat.reduceEqDiff, reduceIte, Nat.reduceLT, Nat.reduceLeDiff, Nat.reduceAdd, Nat.reduceMul, Nat.reduceBEq, Int.reduceToNat, tyK, s.f13]
  refine call path_ok ?_
  rintro _ h6 ⟨e6, v6, rfl, g6⟩
  simp -dsimp (maxSteps := 1000000) (disch := first | omega | (simp only [new_n, put_n]; omega) | decide +kernel | (repeat first | rw [new_n] | rw [put_n])) only [wpS, wpT, Nat.reduceEqDiff, reduceIte, Nat.reduceLT, Nat.reduceLeDiff, Nat.reduceAdd, Nat.reduceMul, Nat.reduceBEq, Int.reduceToNat, tyK, s.f13]
  refine call (ones_ok 4 0 1 0 (by decide)) ?_
  rintro _ h7 ⟨e7, w7, rfl, o7⟩
  simp -dsimp (maxSteps := 1000000) (disch := first | omega | (simp only [new_n, put_n]; omega) | decide +kernel | (repeat first | rw [new_n] | rw [put_n])) only [wpS, wpT, Nat.reduceEqDiff, reduceIte, Nat.reduceLT, Nat.reduceLeDiff, Nat.reduceAdd, Nat.reduceMul, Nat.reduceBEq, Int.reduceToNat, tyK, s.f13]
  refine call (bad_path (List.replicate 4 1) (g6.ext e7) o7 (by decide) (by decide) (by decide +kernel)) ?_
  rintro _ h8 ⟨e8, rfl⟩
  have x8 := ((x5.trans e6).trans e7).trans e8
  simp -dsimp (maxSteps := 1000000) (disch := first | omega | (simp only [new_n, put_n]; omega) | decide +kernel | (repeat first | rw [new_n] | rw [put_n])) only [wpS, wpT, Nat.reduceEqDiff, reduceIte, Nat.reduceLT, Nat.reduceLeDiff, Nat.reduceAdd, Nat.reduceMul, Nat.reduceBEq, Int.reduceToNat, tyK, s.f13]
  refine call path_ok ?_
  rintro _ h9 ⟨e9, v9, rfl, g9⟩
  simp -dsimp (maxSteps := 1000000) (disch := first | omega | (simp only [new_n, put_n]; omega) | decide +kernel | (repeat first | rw [new_n] | rw [put_n])) only [wpS, wpT, Nat.reduceEqDiff, reduceIte, Nat.reduceLT, Nat.reduceLeDiff, Nat.reduceAdd, Nat.reduceMul, Nat.reduceBEq, Int.reduceToNat, tyK, s.f13]
  refine call (ones_ok 4 0 1 9 (by decide)) ?_
  rintro _ h10 ⟨e10, w10, rfl, o10⟩
  simp -dsimp (maxSteps := 1000000) (disch := first | omega | (simp only [new_n, put_n]; omega) | decide +kernel | (repeat first | rw [new_n] | rw [put_n])) only [wpS, wpT, Nat.reduceEqDiff, reduceIte, Nat.reduceLT, Nat.reduceLeDiff, Nat.reduceAdd, Nat.reduceMul, Nat.reduceBEq, Int.reduceToNat, tyK, s.f13]
  refine call (bad_path (List.replicate 4 1) (g9.ext e10) o10 (by decide) (by decide) (by decide +kernel)) ?_
  rintro _ h11 ⟨e11, rfl⟩
  have x11 := ((x8.trans e9).trans e10).trans e11
  simp -dsimp (maxSteps := 1000000) (disch := first | omega | (simp only [new_n, put_n]; omega) | decide +kernel | (repeat first | rw [new_n] | rw [put_n])) only [wpS, wpT, Nat.reduceEqDiff, reduceIte, Nat.reduceLT, Nat.reduceLeDiff, Nat.reduceAdd, Nat.reduceMul, Nat.reduceBEq, Int.reduceToNat, tyK, s.f13]
  refine call path_ok ?_
  rintro _ h12 ⟨e12, v12, rfl, g12⟩
  simp -dsimp (maxSteps := 1000000) (disch := first | omega | (simp only [new_n, put_n]; omega) | decide +kernel | (repeat first | rw [new_n] | rw [put_n])) only [wpS, wpT, Nat.reduceEqDiff, reduceIte, Nat.reduceLT, Nat.reduceLeDiff, Nat.reduceAdd, Nat.reduceMul, Nat.reduceBEq, Int.reduceToNat, tyK, s.f13]
  refine call (ones_ok 4 (-1) 1 1 (by decide)) ?_
  rintro _ h13 ⟨e13, w13, rfl, o13⟩
  simp -dsimp (maxSteps := 1000000) (disch := first | omega | (simp only [new_n, put_n]; omega) | decide +kernel | (repeat first | rw [new_n] | rw [put_n])) only [wpS, wpT, Nat.reduceEqDiff, reduceIte, Nat.reduceLT, Nat.reduceLeDiff, Nat.reduceAdd, Nat.reduceMul, Nat.reduceBEq, Int.reduceToNat, tyK, s.f13]
  refine call (bad_path (List.replicate 4 1) (g12.ext e13) o13 (by decide) (by decide) (by decide +kernel)) ?_
  rintro _ h14 ⟨e14, rfl⟩
  have x14 := ((x11.trans e12).trans e13).trans e14
  simp -dsimp (maxSteps := 1000000) (disch := first | omega | (simp only [new_n, put_n]; omega) | decide +kernel | (repeat first | rw [new_n] | rw [put_n])) only [wpS, wpT, Nat.reduceEqDiff, reduceIte, Nat.reduceLT, Nat.reduceLeDiff, Nat.reduceAdd, Nat.reduceMul, Nat.reduceBEq, Int.reduceToNat, tyK, s.f13]
  refine call path_ok ?_
  rintro _ h15 ⟨e15, v15, rfl, g15⟩
  simp -dsimp (maxSteps := 1000000) (disch := first | omega | (simp only [new_n, put_n]; omega) | decide +kernel | (repeat first | rw [new_n] | rw [put_n])) only [wpS, wpT, Nat.reduceEqDiff, reduceIte, Nat.reduceLT, Nat.reduceLeDiff, Nat.reduceAdd, Nat.reduceMul, Nat.reduceBEq, Int.reduceToNat, tyK, s.f13]
  refine call (ones_ok 4 2 1 1 (by decide)) ?_
  rintro _ h16 ⟨e16, w16, rfl, o16⟩
  simp -dsimp (maxSteps := 1000000) (disch := first | omega | (simp only [new_n, put_n]; omega) | decide +kernel | (repeat first | rw [new_n] | rw [put_n])) only [wpS, wpT, Nat.reduceEqDiff, reduceIte, Nat.reduceLT, Nat.reduceLeDiff, Nat.reduceAdd, Nat.reduceMul, Nat.reduceBEq, Int.reduceToNat, tyK, s.f13]
  refine call (bad_path (List.replicate 4 1) (g15.ext e16) o16 (by decide) (by decide) (by decide +kernel)) ?_
  rintro _ h17 ⟨e17, rfl⟩
  have x17 := ((x14.trans e15).trans e16).trans e17
  simp -dsimp (maxSteps := 1000000) (disch := first | omega | (simp only [new_n, put_n]; omega) | decide +kernel | (repeat first | rw [new_n] | rw [put_n])) only [wpS, wpT, Nat.reduceEqDiff, reduceIte, Nat.reduceLT, Nat.reduceLeDiff, Nat.reduceAdd, Nat.reduceMul, Nat.reduceBEq, Int.reduceToNat, tyK, s.f13]
  exact ⟨⟨⟨⟨s.e.d.x.of x17 (by simp [s.e.d.x.f1]), by simp [s.e.d.f4], by simp [s.e.d.f11]⟩, by simp [s.e.f12]⟩, by simp [s.f13]⟩, by simp⟩
/-- Bounds in a variable of their own, with weights of their own. -/
structure Own (h hh : IH) (fr : Fr) (t b c : Nat) (ws : List Int) : Prop where
  f : fget fr t = some (ptr (2 * c) 0)
  gc : hh.ext.get c = some (.cells [.slice (some ⟨2 * b, 0, none⟩) 4 9, KI 0, KI 9, KI 1] 0 none)
  gb : hh.ext.get b = some (.cells (ws.map KI) 1 none)
  lb : h.n ≤ b ∧ b < hh.n
  lc : h.n ≤ c ∧ c < hh.n
  ne : b ≠ c
  wl : ws.length = 4
theorem Own.ext {h hh h3 : IH} {fr fr3 : Fr} {t b c : Nat} {ws : List Int} (o : Own h hh fr t b c ws) (e : Ext hh h3) (f : fget fr3 t = some (ptr (2 * c) 0)) : Own h h3 fr3 t b c ws :=
  ⟨f, by rw [e.get _ o.lc.2]; exact o.gc, by rw [e.get _ o.lb.2]; exact o.gb, ⟨o.lb.1, Nat.lt_of_lt_of_le o.lb.2 e.n⟩, ⟨o.lc.1, Nat.lt_of_lt_of_le o.lc.2 e.n⟩, o.ne, o.wl⟩
theorem Own.sl {h hh : IH} {fr : Fr} {t b c : Nat} {ws : List Int} (o : Own h hh fr t b c ws) : SlOf hh 1 (.slice (some ⟨2 * b, 0, none⟩) 4 9) ws.length (ws.map KI) := by
  rw [o.wl]
  exact sl_block (k := b) (f := none) o.gb o.lb.2 (by decide) (by simp [o.wl]) (by decide) (by decide)
theorem KG.fr {h hh h3 : IH} {fr fr3 : Fr} (s : KG h hh fr) (e : Ext h h3) (b : BaseT h3) (f1 : fget fr3 1 = some (.func (.func 19) #[] #[])) (f4 : fget fr3 4 = some (.bool true)) (f11 : fget fr3 11 = some (.bool true)) (f12 : fget fr3 12 = some (.bool true)) (f13 : fget fr3 13 = some (.func (.func 27) #[] #[])) (f14 : fget fr3 14 = some (.bool true)) : KG h h3 fr3 :=
  ⟨⟨⟨⟨⟨e, b, f1⟩, f4, f11⟩, f12⟩, f13⟩, f14⟩
theorem KG.ext {h hh h3 : IH} {fr fr3 : Fr} (s : KG h hh fr) (e : Ext hh h3) (f1 : fget fr3 1 = some (.func (.func 19) #[] #[])) (f4 : fget fr3 4 = some (.bool true)) (f11 : fget fr3 11 = some (.bool true)) (f12 : fget fr3 12 = some (.bool true)) (f13 : fget fr3 13 = some (.func (.func 27) #[] #[])) (f14 : fget fr3 14 = some (.bool true)) : KG h h3 fr3 :=
  s.fr (s.f.e.d.x.e.trans e) (s.f.e.d.x.b.ext e) f1 f4 f11 f12 f13 f14
set_option maxHeartbeats 8000000 in
theorem k18 {h hh : IH} {fr : Fr} {Q : IExit → Fr → IH → Prop} (s : KG h hh fr) : Do (wpC Proofs.Tryd.prog 4 295 none (partK 12) fr hh) (seqK (fun fr h' => Pst (KG h h' fr ∧ ∃ b c, Own h h' fr 15 b c [1, 1, 1, 1]) nx) Q) nx := by
  show Do (wpC _ _ _ _ (.region _ _ _) fr hh) _ _
  have hn0 := s.f.e.d.x.e.n
  simp -dsimp (maxSteps := 1000000) (disch := first | omega | (simp only [new_n, put_n]; omega) | decide +kernel | (repeat first | rw [new_n] | rw [put_n])) only [wpS, wpT, Nat.reduceEqDiff, reduceIte, Nat.reduceLT, Nat.reduceLeDiff, Nat.reduceAdd, Nat.reduceMul, Nat.reduceBEq, Int.reduceToNat, tyK]
  refine call (ones_own 4 0 9 1 (by decide)) ?_
  rintro _ h1 ⟨e1, b, hb1, hb2, rfl, gb⟩
  have n1 : Ext h1 ((h1.new (.cells [.slice none 0 0, .int .i64 0, .int .i64 0, .int .i64 0] 0 none)).put h1.n (.cells [.slice (some ⟨2 * b, 0, none⟩) 4 9, KI 0, KI 9, KI 1] 0 none)) := ((Ext.refl h1).new _).put (Nat.le_refl _) _
  have x1 := e1.trans n1
  have hn1 := e1.n
  simp -dsimp (maxSteps := 1000000) (disch := first | omega | (simp only [new_n, put_n]; omega) | decide +kernel | (repeat first | rw [new_n] | rw [put_n])) only [wpS, wpT, Nat.reduceEqDiff, reduceIte, Nat.reduceLT, Nat.reduceLeDiff, Nat.reduceAdd, Nat.reduceMul, Nat.reduceBEq, Int.reduceToNat, tyK]
  exact ⟨s.ext x1 (by simp [s.f.e.d.x.f1]) (by simp [s.f.e.d.f4]) (by simp [s.f.e.d.f11]) (by simp [s.f.e.f12]) (by simp [s.f.f13]) (by simp [s.f14]), b, h1.n, by simp, get_put_same _ _ rfl, by rw [n1.get _ hb2]; exact gb, ⟨by omega, by simp only [new_n, put_n]; omega⟩, ⟨by omega, by simp only [new_n, put_n]; omega⟩, by omega, rfl⟩
theorem i3 : idxAt 3 4 = some 3 := rfl
theorem i0 : idxAt 0 4 = some 0 := rfl
set_option maxHeartbeats 8000000 in
theorem k19 {h hh : IH} {fr : Fr} {Q : IExit → Fr → IH → Prop} {b c : Nat} (s : KG h hh fr) (o : Own h hh fr 15 b c [1, 1, 1, 1]) : Do (wpC Proofs.Tryd.prog 4 295 none (partK 13) fr hh) (seqK (fun fr h' => Pst (KG h h' fr ∧ Own h h' fr 15 b c [1, 1, 1, 1000000001]) nx) Q) nx := by
  show Do (wpC _ _ _ _ (.region _ _ _) fr hh) _ _
  have rc : hh.row (2 * c) = some [.slice (some ⟨2 * b, 0, none⟩) 4 9, KI 0, KI 9, KI 1] := by rw [row_even]; simp only [IH.cells, o.gc]
  have hne := o.ne
  have hlb := o.lb
  have hlc := o.lc
  have gb : hh.ext.get b = some (.cells [KI 1, KI 1, KI 1, KI 1] 1 none) := o.gb
  simp -dsimp (maxSteps := 1000000) (disch := first | omega | (simp only [new_n, put_n]; omega) | decide +kernel | (repeat first | rw [new_n] | rw [put_n])) only [wpS, wpT, Nat.reduceEqDiff, reduceIte, Nat.reduceLT, Nat.reduceLeDiff, Nat.reduceAdd, Nat.reduceMul, Nat.reduceBEq, Int.reduceToNat, tyK, o.f, rc, gb, i3, i0]
  refine ⟨s.fr (s.f.e.d.x.e.put hlb.1 _) (s.f.e.d.x.b) (by simp [s.f.e.d.x.f1]) (by simp [s.f.e.d.f4]) (by simp [s.f.e.d.f11]) (by simp [s.f.e.f12]) (by simp [s.f.f13]) (by simp [s.f14]), by simp [o.f], ?_, get_put_same _ _ rfl, ⟨hlb.1, by simp only [put_n]; omega⟩, ⟨hlc.1, by simp only [put_n]; omega⟩, hne, rfl⟩
  rw [get_put_old _ _ (by omega)]; exact o.gc
theorem Own.put {h hh : IH} {fr fr3 : Fr} {t b c : Nat} {ws : List Int} (o : Own h hh fr t b c ws) {k : Nat} (hb : b ≠ k) (hc : c ≠ k) (ob : IObj) (f : fget fr3 t = some (ptr (2 * c) 0)) : Own h (hh.put k ob) fr3 t b c ws :=
  ⟨f, by rw [get_put_old _ _ hc]; exact o.gc, by rw [get_put_old _ _ hb]; exact o.gb, ⟨o.lb.1, by simp only [put_n]; exact o.lb.2⟩, ⟨o.lc.1, by simp only [put_n]; exact o.lc.2⟩, o.ne, o.wl⟩
set_option maxHeartbeats 8000000 in
theorem k20 {h hh : IH} {fr : Fr} {Q : IExit → Fr → IH → Prop} {b c : Nat} {ws : List Int} (s : KG h hh fr) (o : Own h hh fr 15 b c ws) : Do (wpC Proofs.Tryd.prog 4 295 none (partK 14) fr hh) (seqK (fun fr h' => Pst (KG h h' fr ∧ Own h h' fr 15 b c ws ∧ ∃ b2 c2, Own h h' fr 16 b2 c2 [1, 1, 1, 1] ∧ b ≠ b2 ∧ c ≠ b2) nx) Q) nx := by
  show Do (wpC _ _ _ _ (.region _ _ _) fr hh) _ _
  have hn0 := s.f.e.d.x.e.n
  simp -dsimp (maxSteps := 1000000) (disch := first | omega | (simp only [new_n, put_n]; omega) | decide +kernel | (repeat first | rw [new_n] | rw [put_n])) only [wpS, wpT, Nat.reduceEqDiff, reduceIte, Nat.reduceLT, Nat.reduceLeDiff, Nat.reduceAdd, Nat.reduceMul, Nat.reduceBEq, Int.reduceToNat, tyK]
  refine call (ones_own 4 0 9 1 (by decide)) ?_
  rintro _ h1 ⟨e1, b2, hb1, hb2, rfl, gb⟩
  have n1 : Ext h1 ((h1.new (.cells [.slice none 0 0, .int .i64 0, .int .i64 0, .int .i64 0] 0 none)).put h1.n (.cells [.slice (some ⟨2 * b2, 0, none⟩) 4 9, KI 0, KI 9, KI 1] 0 none)) := ((Ext.refl h1).new _).put (Nat.le_refl _) _
  have x1 := e1.trans n1
  have hn1 := e1.n
  simp -dsimp (maxSteps := 1000000) (disch := first | omega | (simp only [new_n, put_n]; omega) | decide +kernel | (repeat first | rw [new_n] | rw [put_n])) only [wpS, wpT, Nat.reduceEqDiff, reduceIte, Nat.reduceLT, Nat.reduceLeDiff, Nat.reduceAdd, Nat.reduceMul, Nat.reduceBEq, Int.reduceToNat, tyK]
  have hlb := o.lb
  have hlc := o.lc
  exact ⟨s.ext x1 (by simp [s.f.e.d.x.f1]) (by simp [s.f.e.d.f4]) (by simp [s.f.e.d.f11]) (by simp [s.f.e.f12]) (by simp [s.f.f13]) (by simp [s.f14]), o.ext x1 (by simp [o.f]), b2, h1.n, ⟨by simp, get_put_same _ _ rfl, by rw [n1.get _ hb2]; exact gb, ⟨by omega, by simp only [new_n, put_n]; omega⟩, ⟨by omega, by simp only [new_n, put_n]; omega⟩, by omega, rfl⟩, by omega, by omega⟩
set_option maxHeartbeats 8000000 in
theorem k21 {h hh : IH} {fr : Fr} {Q : IExit → Fr → IH → Prop} {b c b0 c0 : Nat} {ws : List Int} (s : KG h hh fr) (o : Own h hh fr 16 b c [1, 1, 1, 1]) (p : Own h hh fr 15 b0 c0 ws) (hb : b0 ≠ b) (hc : c0 ≠ b) : Do (wpC Proofs.Tryd.prog 4 295 none (partK 15) fr hh) (seqK (fun fr h' => Pst (KG h h' fr ∧ Own h h' fr 16 b c [-1, 1, 1, 1] ∧ Own h h' fr 15 b0 c0 ws) nx) Q) nx := by
  show Do (wpC _ _ _ _ (.region _ _ _) fr hh) _ _
  have rc : hh.row (2 * c) = some [.slice (some ⟨2 * b, 0, none⟩) 4 9, KI 0, KI 9, KI 1] := by rw [row_even]; simp only [IH.cells, o.gc]
  have hne := o.ne
  have hlb := o.lb
  have hlc := o.lc
  have gb : hh.ext.get b = some (.cells [KI 1, KI 1, KI 1, KI 1] 1 none) := o.gb
  simp -dsimp (maxSteps := 1000000) (disch := first | omega | (simp only [new_n, put_n]; omega) | decide +kernel | (repeat first | rw [new_n] | rw [put_n])) only [wpS, wpT, Nat.reduceEqDiff, reduceIte, Nat.reduceLT, Nat.reduceLeDiff, Nat.reduceAdd, Nat.reduceMul, Nat.reduceBEq, Int.reduceToNat, tyK, o.f, rc, gb, i3, i0]
  refine ⟨s.fr (s.f.e.d.x.e.put hlb.1 _) (s.f.e.d.x.b) (by simp [s.f.e.d.x.f1]) (by simp [s.f.e.d.f4]) (by simp [s.f.e.d.f11]) (by simp [s.f.e.f12]) (by simp [s.f.f13]) (by simp [s.f14]), ⟨by simp [o.f], ?_, get_put_same _ _ rfl, ⟨hlb.1, by simp only [put_n]; omega⟩, ⟨hlc.1, by simp only [put_n]; omega⟩, hne, rfl⟩, p.put hb hc _ (by simp [p.f])⟩
  rw [get_put_old _ _ (by omega)]; exact o.gc
set_option maxHeartbeats 8000000 in
theorem k22 {h hh : IH} {fr : Fr} {Q : IExit → Fr → IH → Prop} {b c b2 c2 : Nat} (s : KG h hh fr) (o : Own h hh fr 15 b c [1, 1, 1, 1000000001]) (p : Own h hh fr 16 b2 c2 [-1, 1, 1, 1]) : Do (wpC Proofs.Tryd.prog 4 295 none (partK 16) fr hh) (seqK (fun fr h' => Pst (KG h h' fr) nx) Q) nx := by
  show Do (wpC _ _ _ _ (.region _ _ _) fr hh) _ _
  have tk4 : ∀ w : Value, List.take 4 (List.drop 0 [w, KI 0, KI 9, KI 1]) = [w, KI 0, KI 9, KI 1] := fun _ => rfl
  have rc : hh.row (2 * c) = some [.slice (some ⟨2 * b, 0, none⟩) 4 9, KI 0, KI 9, KI 1] := by rw [row_even]; simp only [IH.cells, o.gc]
  have rp : hh.row (2 * c2) = some [.slice (some ⟨2 * b2, 0, none⟩) 4 9, KI 0, KI 9, KI 1] := by rw [row_even]; simp only [IH.cells, p.gc]
  have lc := o.lc
  have lp := p.lc
  refine drawn [(4, [3]), (10, [9])] (by kernel_rfl) (by kernel_rfl) rfl ?_
  simp -dsimp (maxSteps := 1000000) (disch := first | omega | (simp only [new_n, put_n]; omega) | decide +kernel | (repeat first | rw [new_n] | rw [put_n])) only [wpS, wpT, Nat.reduceEqDiff, reduceIte, Nat.reduceLT, Nat.reduceLeDiff, Nat.reduceAdd, Nat.reduceMul, Nat.reduceBEq, Int.reduceToNat, tyK, s.f14, s.f.f13]
  refine call path_ok ?_
  rintro _ h1 ⟨e1, v1, rfl, g1⟩
  have rc1 : h1.row (2 * c) = some [.slice (some ⟨2 * b, 0, none⟩) 4 9, KI 0, KI 9, KI 1] := by rw [e1.row (.inr (by omega))]; exact rc
  simp -dsimp (maxSteps := 1000000) (disch := first | omega | (simp only [new_n, put_n]; omega) | decide +kernel | (repeat first | rw [new_n] | rw [put_n])) only [wpS, wpT, Nat.reduceEqDiff, reduceIte, Nat.reduceLT, Nat.reduceLeDiff, Nat.reduceAdd, Nat.reduceMul, Nat.reduceBEq, Int.reduceToNat, tyK, o.f, rc1, tk4, s.f.f13]
  refine call (bad_path [1, 1, 1, 1000000001] g1 (o.ext (fr3 := fr) e1 o.f).sl (by decide) (by decide) (by decide +kernel)) ?_
  rintro _ h2 ⟨e2, rfl⟩
  simp -dsimp (maxSteps := 1000000) (disch := first | omega | (simp only [new_n, put_n]; omega) | decide +kernel | (repeat first | rw [new_n] | rw [put_n])) only [wpS, wpT, Nat.reduceEqDiff, reduceIte, Nat.reduceLT, Nat.reduceLeDiff, Nat.reduceAdd, Nat.reduceMul, Nat.reduceBEq, Int.reduceToNat, tyK, s.f.f13]
  refine call path_ok ?_
  rintro _ h3 ⟨e3, v3, rfl, g3⟩
  have x3 := (e1.trans e2).trans e3
  have rp3 : h3.row (2 * c2) = some [.slice (some ⟨2 * b2, 0, none⟩) 4 9, KI 0, KI 9, KI 1] := by rw [x3.row (.inr (by omega))]; exact rp
  simp -dsimp (maxSteps := 1000000) (disch := first | omega | (simp only [new_n, put_n]; omega) | decide +kernel | (repeat first | rw [new_n] | rw [put_n])) only [wpS, wpT, Nat.reduceEqDiff, reduceIte, Nat.reduceLT, Nat.reduceLeDiff, Nat.reduceAdd, Nat.reduceMul, Nat.reduceBEq, Int.reduceToNat, tyK, p.f, rp3, tk4, s.f.f13]
  refine call (bad_path [-1, 1, 1, 1] g3 (p.ext (fr3 := fr) x3 p.f).sl (by decide) (by decide) (by decide +kernel)) ?_
  rintro _ h4 ⟨e4, rfl⟩
  have x4 := x3.trans e4
  simp -dsimp (maxSteps := 1000000) (disch := first | omega | (simp only [new_n, put_n]; omega) | decide +kernel | (repeat first | rw [new_n] | rw [put_n])) only [wpS, wpT, Nat.reduceEqDiff, reduceIte, Nat.reduceLT, Nat.reduceLeDiff, Nat.reduceAdd, Nat.reduceMul, Nat.reduceBEq, Int.reduceToNat, tyK, s.f.f13]
  have rp2 : h2.row (2 * c2) = some [.slice (some ⟨2 * b2, 0, none⟩) 4 9, KI 0, KI 9, KI 1] := by rw [(e1.trans e2).row (.inr (by omega))]; exact rp
  refine ⟨wpSteady_cons (wpSteady_one rfl rfl rfl rfl (steady_load (av := ptr (2 * c) 0) (v := .agg #[.slice (some ⟨2 * b, 0, none⟩) 4 9, KI 0, KI 9, KI 1]) ?_ ?_ ?_)) (wpSteady_one rfl rfl rfl rfl (steady_load (av := ptr (2 * c2) 0) (v := .agg #[.slice (some ⟨2 * b2, 0, none⟩) 4 9, KI 0, KI 9, KI 1]) ?_ ?_ ?_)), ?_⟩
  · simp -dsimp (maxSteps := 1000000) (disch := first | omega | (simp only [new_n, put_n]; omega) | decide +kernel | (repeat first | rw [new_n] | rw [put_n])) only [wpS, wpT, Nat.reduceEqDiff, reduceIte, Nat.reduceLT, Nat.reduceLeDiff, Nat.reduceAdd, Nat.reduceMul, Nat.reduceBEq, Int.reduceToNat, tyK, o.f]
  · simp -dsimp (maxSteps := 1000000) (disch := first | omega | (simp only [new_n, put_n]; omega) | decide +kernel | (repeat first | rw [new_n] | rw [put_n])) only [wpS, wpT, Nat.reduceEqDiff, reduceIte, Nat.reduceLT, Nat.reduceLeDiff, Nat.reduceAdd, Nat.reduceMul, Nat.reduceBEq, Int.reduceToNat, tyK, rc, rc1, tk4]
  · simp -dsimp (maxSteps := 1000000) (disch := first | omega | (simp only [new_n, put_n]; omega) | decide +kernel | (repeat first | rw [new_n] | rw [put_n])) only [wpS, wpT, Nat.reduceEqDiff, reduceIte, Nat.reduceLT, Nat.reduceLeDiff, Nat.reduceAdd, Nat.reduceMul, Nat.reduceBEq, Int.reduceToNat, tyK, rc, rc1, tk4]
  · simp -dsimp (maxSteps := 1000000) (disch := first | omega | (simp only [new_n, put_n]; omega) | decide +kernel | (repeat first | rw [new_n] | rw [put_n])) only [wpS, wpT, Nat.reduceEqDiff, reduceIte, Nat.reduceLT, Nat.reduceLeDiff, Nat.reduceAdd, Nat.reduceMul, Nat.reduceBEq, Int.reduceToNat, tyK, p.f]
  · simp -dsimp (maxSteps := 1000000) (disch := first | omega | (simp only [new_n, put_n]; omega) | decide +kernel | (repeat first | rw [new_n] | rw [put_n])) only [wpS, wpT, Nat.reduceEqDiff, reduceIte, Nat.reduceLT, Nat.reduceLeDiff, Nat.reduceAdd, Nat.reduceMul, Nat.reduceBEq, Int.reduceToNat, tyK, rp, rp2, rp3, tk4]
  · simp -dsimp (maxSteps := 1000000) (disch := first | omega | (simp only [new_n, put_n]; omega) | decide +kernel | (repeat first | rw [new_n] | rw [put_n])) only [wpS, wpT, Nat.reduceEqDiff, reduceIte, Nat.reduceLT, Nat.reduceLeDiff, Nat.reduceAdd, Nat.reduceMul, Nat.reduceBEq, Int.reduceToNat, tyK, rp, rp2, rp3, tk4]
  simp -dsimp (maxSteps := 1000000) (disch := first | omega | (simp only [new_n, put_n]; omega) | decide +kernel | (repeat first | rw [new_n] | rw [put_n])) only [wpS, wpT, Nat.reduceEqDiff, reduceIte, Nat.reduceLT, Nat.reduceLeDiff, Nat.reduceAdd, Nat.reduceMul, Nat.reduceBEq, Int.reduceToNat, tyK]
  exact s.ext x4 (by simp [s.f.e.d.x.f1]) (by simp [s.f.e.d.f4]) (by simp [s.f.e.d.f11]) (by simp [s.f.e.f12]) (by simp [s.f.f13]) (by simp)
/-- The later facts. -/
def Has (fr : Fr) (l : List (Nat × Value)) : Prop := ∀ p ∈ l, fget fr p.1 = some p.2
structure KH (h hh : IH) (fr : Fr) (l : List (Nat × Value)) : Prop where
  x : KX h hh fr
  f4 : fget fr 4 = some (.bool true)
  f11 : fget fr 11 = some (.bool true)
  f12 : fget fr 12 = some (.bool true)
  f14 : fget fr 14 = some (.bool true)
  l : Has fr l
theorem KG.kh {h hh : IH} {fr : Fr} (s : KG h hh fr) : KH h hh fr [] := ⟨s.f.e.d.x, s.f.e.d.f4, s.f.e.d.f11, s.f.e.f12, s.f14, fun _ hp => by cases hp⟩
theorem KH.ext {h hh h3 : IH} {fr fr3 : Fr} {l l3 : List (Nat × Value)} (s : KH h hh fr l) (e : Ext hh h3) (f1 : fget fr3 1 = some (.func (.func 19) #[] #[])) (f4 : fget fr3 4 = some (.bool true)) (f11 : fget fr3 11 = some (.bool true)) (f12 : fget fr3 12 = some (.bool true)) (f14 : fget fr3 14 = some (.bool true)) (hl : Has fr3 l3) : KH h h3 fr3 l3 :=
  ⟨s.x.of e f1, f4, f11, f12, f14, hl⟩
set_option maxHeartbeats 8000000 in
theorem k23 {h hh : IH} {fr : Fr} {Q : IExit → Fr → IH → Prop} (s : KH h hh fr []) : Do (wpC Proofs.Tryd.prog 4 295 none (partK 17) fr hh) (seqK (fun fr h' => Pst (KH h h' fr [(18, KI 0)]) nx) Q) nx := by
  show Do (wpC _ _ _ _ (.region _ _ _) fr hh) _ _
  simp -dsimp (maxSteps := 1000000) (disch := first | omega | (simp only [new_n, put_n]; omega) | decide +kernel | (repeat first | rw [new_n] | rw [put_n])) only [wpS, wpT, Nat.reduceEqDiff, reduceIte, Nat.reduceLT, Nat.reduceLeDiff, Nat.reduceAdd, Nat.reduceMul, Nat.reduceBEq, Int.reduceToNat, tyK, s.x.f1]
  refine call (full_ok 7 (by decide)) ?_
  rintro _ h1 ⟨e1, v1, rfl, g1⟩
  simp -dsimp (maxSteps := 1000000) (disch := first | omega | (simp only [new_n, put_n]; omega) | decide +kernel | (repeat first | rw [new_n] | rw [put_n])) only [wpS, wpT, Nat.reduceEqDiff, reduceIte, Nat.reduceLT, Nat.reduceLeDiff, Nat.reduceAdd, Nat.reduceMul, Nat.reduceBEq, Int.reduceToNat, tyK]
  refine call (ones_ok 7 0 7 3 (by decide)) ?_
  rintro _ h2 ⟨e2, w2, rfl, o2⟩
  simp -dsimp (maxSteps := 1000000) (disch := first | omega | (simp only [new_n, put_n]; omega) | decide +kernel | (repeat first | rw [new_n] | rw [put_n])) only [wpS, wpT, Nat.reduceEqDiff, reduceIte, Nat.reduceLT, Nat.reduceLeDiff, Nat.reduceAdd, Nat.reduceMul, Nat.reduceBEq, Int.reduceToNat, tyK]
  have x2 := e1.trans e2
  refine call (all_ok (s.x.b.ext x2) (args_full (k := 3) gr7 (by decide) (by decide) (g1.ext e2) o2 (by decide))) ?_
  rintro _ h3 ⟨e3, hr⟩
  rw [q7, if_pos (by decide)] at hr
  obtain ⟨x, rfl, _⟩ := hr
  simp -dsimp (maxSteps := 1000000) (disch := first | omega | (simp only [new_n, put_n]; omega) | decide +kernel | (repeat first | rw [new_n] | rw [put_n])) only [wpS, wpT, Nat.reduceEqDiff, reduceIte, Nat.reduceLT, Nat.reduceLeDiff, Nat.reduceAdd, Nat.reduceMul, Nat.reduceBEq, Int.reduceToNat, tyK, s.x.f1]
  exact s.ext (x2.trans e3) (by simp [s.x.f1]) (by simp [s.f4]) (by simp [s.f11]) (by simp [s.f12]) (by simp [s.f14]) (fun q hq => by simp only [List.mem_cons, List.not_mem_nil, or_false] at hq; subst hq <;> simp)
set_option maxHeartbeats 8000000 in
theorem k24 {h hh : IH} {fr : Fr} {Q : IExit → Fr → IH → Prop} (s : KH h hh fr [(18, KI 0)]) : Do (wpC Proofs.Tryd.prog 4 295 none (partK 18) fr hh) (seqK (fun fr h' => Pst (KH h h' fr [(20, KI 2), (18, KI 0)]) nx) Q) nx := by
  show Do (wpC _ _ _ _ (.region _ _ _) fr hh) _ _
  have F18 : fget fr 18 = some (KI 0) := s.l (18, KI 0) (by simp)
  have hspl : ∀ n, IH.splice [.int .u64 0, .int .u64 0, .int .u64 0, .int .u64 0, .int .u64 0, .int .u64 0, .int .u64 0, .int .u64 0] 0 (wdC n) = wdC n := fun n => splice_all (by rw [wdC_len]; rfl)
  simp -dsimp (maxSteps := 1000000) (disch := first | omega | (simp only [new_n, put_n]; omega) | decide +kernel | (repeat first | rw [new_n] | rw [put_n])) only [wpS, wpT, Nat.reduceEqDiff, reduceIte, Nat.reduceLT, Nat.reduceLeDiff, Nat.reduceAdd, Nat.reduceMul, Nat.reduceBEq, Int.reduceToNat, tyK]
  refine call path_ok ?_
  rintro _ h1 ⟨e1, v1, rfl, g1⟩
  simp -dsimp (maxSteps := 1000000) (disch := first | omega | (simp only [new_n, put_n]; omega) | decide +kernel | (repeat first | rw [new_n] | rw [put_n])) only [wpS, wpT, Nat.reduceEqDiff, reduceIte, Nat.reduceLT, Nat.reduceLeDiff, Nat.reduceAdd, Nat.reduceMul, Nat.reduceBEq, Int.reduceToNat, tyK]
  refine call (ones_ok 4 1 3 2 (by decide)) ?_
  rintro _ h2 ⟨e2, w2, rfl, o2⟩
  simp -dsimp (maxSteps := 1000000) (disch := first | omega | (simp only [new_n, put_n]; omega) | decide +kernel | (repeat first | rw [new_n] | rw [put_n])) only [wpS, wpT, Nat.reduceEqDiff, reduceIte, Nat.reduceLT, Nat.reduceLeDiff, Nat.reduceAdd, Nat.reduceMul, Nat.reduceBEq, Int.reduceToNat, tyK]
  have n2 : Ext h2 (h2.new (.cells [.int .i64 0, .int .i64 0, .int .i64 1] 1 none)) := (Ext.refl h2).new _
  have x2 := (e1.trans e2).trans n2
  refine call (index_ok (p := [0, 0, 1]) (s.x.b.ext x2) (args_path (k := 2) (by decide) ((g1.ext e2).ext n2) (o2.ext n2) (by decide)) (sl_block (k := h2.n) (f := none) (get_new_same _ _ rfl) (by simp only [new_n]; omega) (by decide) rfl (by decide) (by decide))) ?_
  rintro _ h3 ⟨e3, rfl⟩
  rw [path_bad0]
  simp -dsimp (maxSteps := 1000000) (disch := first | omega | (simp only [new_n, put_n]; omega) | decide +kernel | (repeat first | rw [new_n] | rw [put_n])) only [wpS, wpT, Nat.reduceEqDiff, reduceIte, Nat.reduceLT, Nat.reduceLeDiff, Nat.reduceAdd, Nat.reduceMul, Nat.reduceBEq, Int.reduceToNat, tyK, wdV_form, wdC_len, wdC_all, hspl, wd_take]
  have eB : Ext h3 ((h3.new (.cells [.int .u64 0, .int .u64 0, .int .u64 0, .int .u64 0, .int .u64 0, .int .u64 0, .int .u64 0, .int .u64 0] 0 none)).put h3.n (.cells (wdC 0) 0 none)) := ((Ext.refl h3).new _).put (Nat.le_refl _) _
  exact s.ext ((x2.trans e3).trans eB) (by simp [s.x.f1]) (by simp [s.f4]) (by simp [s.f11]) (by simp [s.f12]) (by simp [s.f14]) (fun q hq => by simp only [List.mem_cons, List.not_mem_nil, or_false] at hq; rcases hq with rfl | rfl <;> simp [F18])
set_option maxHeartbeats 8000000 in
theorem k25 {h hh : IH} {fr : Fr} {Q : IExit → Fr → IH → Prop} (s : KH h hh fr [(20, KI 2), (18, KI 0)]) : Do (wpC Proofs.Tryd.prog 4 295 none (partK 19) fr hh) (seqK (fun fr h' => Pst (KH h h' fr [(22, KI 2), (20, KI 2), (18, KI 0)]) nx) Q) nx := by
  show Do (wpC _ _ _ _ (.region _ _ _) fr hh) _ _
  have F18 : fget fr 18 = some (KI 0) := s.l (18, KI 0) (by simp)
  have F20 : fget fr 20 = some (KI 2) := s.l (20, KI 2) (by simp)
  have hspl : ∀ n, IH.splice [.int .u64 0, .int .u64 0, .int .u64 0, .int .u64 0, .int .u64 0, .int .u64 0, .int .u64 0, .int .u64 0] 0 (wdC n) = wdC n := fun n => splice_all (by rw [wdC_len]; rfl)
  simp -dsimp (maxSteps := 1000000) (disch := first | omega | (simp only [new_n, put_n]; omega) | decide +kernel | (repeat first | rw [new_n] | rw [put_n])) only [wpS, wpT, Nat.reduceEqDiff, reduceIte, Nat.reduceLT, Nat.reduceLeDiff, Nat.reduceAdd, Nat.reduceMul, Nat.reduceBEq, Int.reduceToNat, tyK]
  refine call path_ok ?_
  rintro _ h1 ⟨e1, v1, rfl, g1⟩
  simp -dsimp (maxSteps := 1000000) (disch := first | omega | (simp only [new_n, put_n]; omega) | decide +kernel | (repeat first | rw [new_n] | rw [put_n])) only [wpS, wpT, Nat.reduceEqDiff, reduceIte, Nat.reduceLT, Nat.reduceLeDiff, Nat.reduceAdd, Nat.reduceMul, Nat.reduceBEq, Int.reduceToNat, tyK]
  refine call (ones_ok 4 1 3 2 (by decide)) ?_
  rintro _ h2 ⟨e2, w2, rfl, o2⟩
  simp -dsimp (maxSteps := 1000000) (disch := first | omega | (simp only [new_n, put_n]; omega) | decide +kernel | (repeat first | rw [new_n] | rw [put_n])) only [wpS, wpT, Nat.reduceEqDiff, reduceIte, Nat.reduceLT, Nat.reduceLeDiff, Nat.reduceAdd, Nat.reduceMul, Nat.reduceBEq, Int.reduceToNat, tyK]
  have n2 : Ext h2 (h2.new (.cells [.int .i64 0, .int .i64 0, .int .i64 0, .int .i64 0] 1 none)) := (Ext.refl h2).new _
  have x2 := (e1.trans e2).trans n2
  refine call (index_ok (p := [0, 0, 0, 0]) (s.x.b.ext x2) (args_path (k := 2) (by decide) ((g1.ext e2).ext n2) (o2.ext n2) (by decide)) (sl_block (k := h2.n) (f := none) (get_new_same _ _ rfl) (by simp only [new_n]; omega) (by decide) rfl (by decide) (by decide))) ?_
  rintro _ h3 ⟨e3, rfl⟩
  rw [path_bad1]
  simp -dsimp (maxSteps := 1000000) (disch := first | omega | (simp only [new_n, put_n]; omega) | decide +kernel | (repeat first | rw [new_n] | rw [put_n])) only [wpS, wpT, Nat.reduceEqDiff, reduceIte, Nat.reduceLT, Nat.reduceLeDiff, Nat.reduceAdd, Nat.reduceMul, Nat.reduceBEq, Int.reduceToNat, tyK, wdV_form, wdC_len, wdC_all, hspl, wd_take]
  have eB : Ext h3 ((h3.new (.cells [.int .u64 0, .int .u64 0, .int .u64 0, .int .u64 0, .int .u64 0, .int .u64 0, .int .u64 0, .int .u64 0] 0 none)).put h3.n (.cells (wdC 0) 0 none)) := ((Ext.refl h3).new _).put (Nat.le_refl _) _
  exact s.ext ((x2.trans e3).trans eB) (by simp [s.x.f1]) (by simp [s.f4]) (by simp [s.f11]) (by simp [s.f12]) (by simp [s.f14]) (fun q hq => by simp only [List.mem_cons, List.not_mem_nil, or_false] at hq; rcases hq with rfl | rfl | rfl <;> simp [F18, F20])
set_option maxHeartbeats 8000000 in
theorem k26 {h hh : IH} {fr : Fr} {Q : IExit → Fr → IH → Prop} (s : KH h hh fr [(22, KI 2), (20, KI 2), (18, KI 0)]) : Do (wpC Proofs.Tryd.prog 4 295 none (partK 20) fr hh) (seqK (fun fr h' => Pst (KH h h' fr [(24, KI 2), (22, KI 2), (20, KI 2), (18, KI 0)]) nx) Q) nx := by
  show Do (wpC _ _ _ _ (.region _ _ _) fr hh) _ _
  have F18 : fget fr 18 = some (KI 0) := s.l (18, KI 0) (by simp)
  have F20 : fget fr 20 = some (KI 2) := s.l (20, KI 2) (by simp)
  have F22 : fget fr 22 = some (KI 2) := s.l (22, KI 2) (by simp)
  have hspl : ∀ n, IH.splice [.int .u64 0, .int .u64 0, .int .u64 0, .int .u64 0, .int .u64 0, .int .u64 0, .int .u64 0, .int .u64 0] 0 (wdC n) = wdC n := fun n => splice_all (by rw [wdC_len]; rfl)
  simp -dsimp (maxSteps := 1000000) (disch := first | omega | (simp only [new_n, put_n]; omega) | decide +kernel | (repeat first | rw [new_n] | rw [put_n])) only [wpS, wpT, Nat.reduceEqDiff, reduceIte, Nat.reduceLT, Nat.reduceLeDiff, Nat.reduceAdd, Nat.reduceMul, Nat.reduceBEq, Int.reduceToNat, tyK]
  refine call path_ok ?_
  rintro _ h1 ⟨e1, v1, rfl, g1⟩
  simp -dsimp (maxSteps := 1000000) (disch := first | omega | (simp only [new_n, put_n]; omega) | decide +kernel | (repeat first | rw [new_n] | rw [put_n])) only [wpS, wpT, Nat.reduceEqDiff, reduceIte, Nat.reduceLT, Nat.reduceLeDiff, Nat.reduceAdd, Nat.reduceMul, Nat.reduceBEq, Int.reduceToNat, tyK]
  refine call (ones_ok 4 1 3 2 (by decide)) ?_
  rintro _ h2 ⟨e2, w2, rfl, o2⟩
  simp -dsimp (maxSteps := 1000000) (disch := first | omega | (simp only [new_n, put_n]; omega) | decide +kernel | (repeat first | rw [new_n] | rw [put_n])) only [wpS, wpT, Nat.reduceEqDiff, reduceIte, Nat.reduceLT, Nat.reduceLeDiff, Nat.reduceAdd, Nat.reduceMul, Nat.reduceBEq, Int.reduceToNat, tyK]
  have n2 : Ext h2 (h2.new (.cells [.int .i64 0, .int .i64 1, .int .i64 0, .int .i64 1] 1 none)) := (Ext.refl h2).new _
  have x2 := (e1.trans e2).trans n2
  refine call (index_ok (p := [0, 1, 0, 1]) (s.x.b.ext x2) (args_path (k := 2) (by decide) ((g1.ext e2).ext n2) (o2.ext n2) (by decide)) (sl_block (k := h2.n) (f := none) (get_new_same _ _ rfl) (by simp only [new_n]; omega) (by decide) rfl (by decide) (by decide))) ?_
  rintro _ h3 ⟨e3, rfl⟩
  rw [path_bad2]
  simp -dsimp (maxSteps := 1000000) (disch := first | omega | (simp only [new_n, put_n]; omega) | decide +kernel | (repeat first | rw [new_n] | rw [put_n])) only [wpS, wpT, Nat.reduceEqDiff, reduceIte, Nat.reduceLT, Nat.reduceLeDiff, Nat.reduceAdd, Nat.reduceMul, Nat.reduceBEq, Int.reduceToNat, tyK, wdV_form, wdC_len, wdC_all, hspl, wd_take]
  have eB : Ext h3 ((h3.new (.cells [.int .u64 0, .int .u64 0, .int .u64 0, .int .u64 0, .int .u64 0, .int .u64 0, .int .u64 0, .int .u64 0] 0 none)).put h3.n (.cells (wdC 0) 0 none)) := ((Ext.refl h3).new _).put (Nat.le_refl _) _
  exact s.ext ((x2.trans e3).trans eB) (by simp [s.x.f1]) (by simp [s.f4]) (by simp [s.f11]) (by simp [s.f12]) (by simp [s.f14]) (fun q hq => by simp only [List.mem_cons, List.not_mem_nil, or_false] at hq; rcases hq with rfl | rfl | rfl | rfl <;> simp [F18, F20, F22])
set_option maxHeartbeats 8000000 in
theorem k27 {h hh : IH} {fr : Fr} {Q : IExit → Fr → IH → Prop} (s : KH h hh fr [(24, KI 2), (22, KI 2), (20, KI 2), (18, KI 0)]) : Do (wpC Proofs.Tryd.prog 4 295 none (partK 21) fr hh) (seqK (fun fr h' => Pst (KH h h' fr [(26, KI 2), (24, KI 2), (22, KI 2), (20, KI 2), (18, KI 0)]) nx) Q) nx := by
  show Do (wpC _ _ _ _ (.region _ _ _) fr hh) _ _
  have F18 : fget fr 18 = some (KI 0) := s.l (18, KI 0) (by simp)
  have F20 : fget fr 20 = some (KI 2) := s.l (20, KI 2) (by simp)
  have F22 : fget fr 22 = some (KI 2) := s.l (22, KI 2) (by simp)
  have F24 : fget fr 24 = some (KI 2) := s.l (24, KI 2) (by simp)
  have hspl : ∀ n, IH.splice [.int .u64 0, .int .u64 0, .int .u64 0, .int .u64 0, .int .u64 0, .int .u64 0, .int .u64 0, .int .u64 0] 0 (wdC n) = wdC n := fun n => splice_all (by rw [wdC_len]; rfl)
  simp -dsimp (maxSteps := 1000000) (disch := first | omega | (simp only [new_n, put_n]; omega) | decide +kernel | (repeat first | rw [new_n] | rw [put_n])) only [wpS, wpT, Nat.reduceEqDiff, reduceIte, Nat.reduceLT, Nat.reduceLeDiff, Nat.reduceAdd, Nat.reduceMul, Nat.reduceBEq, Int.reduceToNat, tyK]
  refine call path_ok ?_
  rintro _ h1 ⟨e1, v1, rfl, g1⟩
  simp -dsimp (maxSteps := 1000000) (disch := first | omega | (simp only [new_n, put_n]; omega) | decide +kernel | (repeat first | rw [new_n] | rw [put_n])) only [wpS, wpT, Nat.reduceEqDiff, reduceIte, Nat.reduceLT, Nat.reduceLeDiff, Nat.reduceAdd, Nat.reduceMul, Nat.reduceBEq, Int.reduceToNat, tyK]
  refine call (ones_ok 4 1 3 2 (by decide)) ?_
  rintro _ h2 ⟨e2, w2, rfl, o2⟩
  simp -dsimp (maxSteps := 1000000) (disch := first | omega | (simp only [new_n, put_n]; omega) | decide +kernel | (repeat first | rw [new_n] | rw [put_n])) only [wpS, wpT, Nat.reduceEqDiff, reduceIte, Nat.reduceLT, Nat.reduceLeDiff, Nat.reduceAdd, Nat.reduceMul, Nat.reduceBEq, Int.reduceToNat, tyK]
  have n2 : Ext h2 (h2.new (.cells [.int .i64 0, .int .i64 0, .int .i64 2, .int .i64 1] 1 none)) := (Ext.refl h2).new _
  have x2 := (e1.trans e2).trans n2
  refine call (index_ok (p := [0, 0, 2, 1]) (s.x.b.ext x2) (args_path (k := 2) (by decide) ((g1.ext e2).ext n2) (o2.ext n2) (by decide)) (sl_block (k := h2.n) (f := none) (get_new_same _ _ rfl) (by simp only [new_n]; omega) (by decide) rfl (by decide) (by decide))) ?_
  rintro _ h3 ⟨e3, rfl⟩
  rw [path_bad3]
  simp -dsimp (maxSteps := 1000000) (disch := first | omega | (simp only [new_n, put_n]; omega) | decide +kernel | (repeat first | rw [new_n] | rw [put_n])) only [wpS, wpT, Nat.reduceEqDiff, reduceIte, Nat.reduceLT, Nat.reduceLeDiff, Nat.reduceAdd, Nat.reduceMul, Nat.reduceBEq, Int.reduceToNat, tyK, wdV_form, wdC_len, wdC_all, hspl, wd_take]
  have eB : Ext h3 ((h3.new (.cells [.int .u64 0, .int .u64 0, .int .u64 0, .int .u64 0, .int .u64 0, .int .u64 0, .int .u64 0, .int .u64 0] 0 none)).put h3.n (.cells (wdC 0) 0 none)) := ((Ext.refl h3).new _).put (Nat.le_refl _) _
  exact s.ext ((x2.trans e3).trans eB) (by simp [s.x.f1]) (by simp [s.f4]) (by simp [s.f11]) (by simp [s.f12]) (by simp [s.f14]) (fun q hq => by simp only [List.mem_cons, List.not_mem_nil, or_false] at hq; rcases hq with rfl | rfl | rfl | rfl | rfl <;> simp [F18, F20, F22, F24])
def d5 : List Nat := [3, 5, 6, 9, 10, 12, 17, 18, 20, 24]
/-- The districts of two nodes. -/
structure KI5 (h hh : IH) (fr : Fr) (x : Value) (l : List (Nat × Value)) : Prop where
  k : KH h hh fr l
  f27 : fget fr 27 = some x
  sx : SlOf hh 1 x 10 (d5.map fun s => K64 s)
set_option maxHeartbeats 8000000 in
theorem k28 {h hh : IH} {fr : Fr} {Q : IExit → Fr → IH → Prop} (s : KH h hh fr [(26, KI 2), (24, KI 2), (22, KI 2), (20, KI 2), (18, KI 0)]) : Do (wpC Proofs.Tryd.prog 4 295 none (partK 22) fr hh) (seqK (fun fr h' => Pst (∃ x, KI5 h h' fr x [(28, KI 0), (26, KI 2), (24, KI 2), (22, KI 2), (20, KI 2), (18, KI 0)]) nx) Q) nx := by
  show Do (wpC _ _ _ _ (.region _ _ _) fr hh) _ _
  have F18 : fget fr 18 = some (KI 0) := s.l (18, KI 0) (by simp)
  have F20 : fget fr 20 = some (KI 2) := s.l (20, KI 2) (by simp)
  have F22 : fget fr 22 = some (KI 2) := s.l (22, KI 2) (by simp)
  have F24 : fget fr 24 = some (KI 2) := s.l (24, KI 2) (by simp)
  have F26 : fget fr 26 = some (KI 2) := s.l (26, KI 2) (by simp)
  simp -dsimp (maxSteps := 1000000) (disch := first | omega | (simp only [new_n, put_n]; omega) | decide +kernel | (repeat first | rw [new_n] | rw [put_n])) only [wpS, wpT, Nat.reduceEqDiff, reduceIte, Nat.reduceLT, Nat.reduceLeDiff, Nat.reduceAdd, Nat.reduceMul, Nat.reduceBEq, Int.reduceToNat, tyK, s.x.f1]
  refine call (full_ok 5 (by decide)) ?_
  rintro _ h1 ⟨e1, v1, rfl, g1⟩
  simp -dsimp (maxSteps := 1000000) (disch := first | omega | (simp only [new_n, put_n]; omega) | decide +kernel | (repeat first | rw [new_n] | rw [put_n])) only [wpS, wpT, Nat.reduceEqDiff, reduceIte, Nat.reduceLT, Nat.reduceLeDiff, Nat.reduceAdd, Nat.reduceMul, Nat.reduceBEq, Int.reduceToNat, tyK]
  refine call (ones_ok 5 2 2 1 (by decide)) ?_
  rintro _ h2 ⟨e2, w2, rfl, o2⟩
  simp -dsimp (maxSteps := 1000000) (disch := first | omega | (simp only [new_n, put_n]; omega) | decide +kernel | (repeat first | rw [new_n] | rw [put_n])) only [wpS, wpT, Nat.reduceEqDiff, reduceIte, Nat.reduceLT, Nat.reduceLeDiff, Nat.reduceAdd, Nat.reduceMul, Nat.reduceBEq, Int.reduceToNat, tyK]
  have x2 := e1.trans e2
  have a := args_full (k := 1) gr5 (by decide) (by decide) (g1.ext e2) o2 (lo := 2) (hi := 2) (by decide)
  refine call (districts_ok (s.x.b.ext x2) a.sE a.sW a.hhi a.ok) ?_
  rintro _ h3 ⟨e3, x, rfl, sx⟩
  rw [q5] at sx
  simp -dsimp (maxSteps := 1000000) (disch := first | omega | (simp only [new_n, put_n]; omega) | decide +kernel | (repeat first | rw [new_n] | rw [put_n])) only [wpS, wpT, Nat.reduceEqDiff, reduceIte, Nat.reduceLT, Nat.reduceLeDiff, Nat.reduceAdd, Nat.reduceMul, Nat.reduceBEq, Int.reduceToNat, tyK, s.x.f1]
  exact ⟨x, s.ext (x2.trans e3) (by simp [s.x.f1]) (by simp [s.f4]) (by simp [s.f11]) (by simp [s.f12]) (by simp [s.f14]) (fun q hq => by simp only [List.mem_cons, List.not_mem_nil, or_false] at hq; rcases hq with rfl | rfl | rfl | rfl | rfl | rfl <;> simp [F18, F20, F22, F24, F26]), by simp, sx⟩
set_option maxHeartbeats 8000000 in
theorem k29 {h hh : IH} {fr : Fr} {Q : IExit → Fr → IH → Prop} {x : Value} (s : KI5 h hh fr x [(28, KI 0), (26, KI 2), (24, KI 2), (22, KI 2), (20, KI 2), (18, KI 0)]) : Do (wpC Proofs.Tryd.prog 4 295 none (partK 23) fr hh) (seqK (fun fr h' => Pst (KI5 h h' fr x [(28, KI 0), (26, KI 2), (24, KI 2), (22, KI 2), (20, KI 2), (18, KI 0)] ∧ fget fr 29 = some (KI 0)) nx) Q) nx := by
  show Do (wpC _ _ _ _ (.region _ _ _) fr hh) _ _
  have F18 : fget fr 18 = some (KI 0) := s.k.l (18, KI 0) (by simp)
  have F20 : fget fr 20 = some (KI 2) := s.k.l (20, KI 2) (by simp)
  have F22 : fget fr 22 = some (KI 2) := s.k.l (22, KI 2) (by simp)
  have F24 : fget fr 24 = some (KI 2) := s.k.l (24, KI 2) (by simp)
  have F26 : fget fr 26 = some (KI 2) := s.k.l (26, KI 2) (by simp)
  have F28 : fget fr 28 = some (KI 0) := s.k.l (28, KI 0) (by simp)
  simp -dsimp (maxSteps := 1000000) (disch := first | omega | (simp only [new_n, put_n]; omega) | decide +kernel | (repeat first | rw [new_n] | rw [put_n])) only [wpS, wpT, Nat.reduceEqDiff, reduceIte, Nat.reduceLT, Nat.reduceLeDiff, Nat.reduceAdd, Nat.reduceMul, Nat.reduceBEq, Int.reduceToNat, tyK]
  exact ⟨⟨s.k.ext (Ext.refl _) (by simp [s.k.x.f1]) (by simp [s.k.f4]) (by simp [s.k.f11]) (by simp [s.k.f12]) (by simp [s.k.f14]) (fun q hq => by simp only [List.mem_cons, List.not_mem_nil, or_false] at hq; rcases hq with rfl | rfl | rfl | rfl | rfl | rfl <;> simp [F18, F20, F22, F24, F26, F28]), by simp [s.f27], s.sx⟩, by simp⟩
theorem d5_oc : ∀ x ∈ d5, oc x = 2 := by decide +kernel
theorem d5_small : ∀ x ∈ d5, x < 4294967296 := by decide
set_option maxHeartbeats 8000000 in
theorem k30 {h hh : IH} {fr : Fr} {Q : IExit → Fr → IH → Prop} {x : Value} (s : KI5 h hh fr x [(28, KI 0), (26, KI 2), (24, KI 2), (22, KI 2), (20, KI 2), (18, KI 0)]) (f29 : fget fr 29 = some (KI 0)) : Do (wpC Proofs.Tryd.prog 4 295 none (partK 24) fr hh) (seqK (fun fr h' => Pst (KI5 h h' fr x [(28, KI 0), (26, KI 2), (24, KI 2), (22, KI 2), (20, KI 2), (18, KI 0)] ∧ fget fr 29 = some (KI 20)) nx) Q) nx := by
  show Do (wpC _ _ _ _ (.seq _ _) fr hh) _ _
  simp -dsimp (maxSteps := 1000000) (disch := first | omega | (simp only [new_n, put_n]; omega) | decide +kernel | (repeat first | rw [new_n] | rw [put_n])) only [wpS, wpT, Nat.reduceEqDiff, reduceIte, Nat.reduceLT, Nat.reduceLeDiff, Nat.reduceAdd, Nat.reduceMul, Nat.reduceBEq, Int.reduceToNat, tyK, s.f27, s.sx.len sl38]
  refine loop (fun m fr hh => ∃ i : Nat, i + m = 10 ∧ KI5 h hh fr x [(28, KI 0), (26, KI 2), (24, KI 2), (22, KI 2), (20, KI 2), (18, KI 0)] ∧ fget fr 29 = some (KI ((2 * i : Nat) : Int)) ∧ fget fr 241 = some x ∧ fget fr 242 = some (KI ((10 : Nat) : Int)) ∧ fget fr 243 = some (KI i)) 10 ⟨0, rfl, ?_, by simp [f29], by simp, by simp, by simp⟩ ?_
  · have F18 : fget fr 18 = some (KI 0) := s.k.l (18, KI 0) (by simp)
    have F20 : fget fr 20 = some (KI 2) := s.k.l (20, KI 2) (by simp)
    have F22 : fget fr 22 = some (KI 2) := s.k.l (22, KI 2) (by simp)
    have F24 : fget fr 24 = some (KI 2) := s.k.l (24, KI 2) (by simp)
    have F26 : fget fr 26 = some (KI 2) := s.k.l (26, KI 2) (by simp)
    have F28 : fget fr 28 = some (KI 0) := s.k.l (28, KI 0) (by simp)
    exact ⟨s.k.ext (Ext.refl _) (by simp [s.k.x.f1]) (by simp [s.k.f4]) (by simp [s.k.f11]) (by simp [s.k.f12]) (by simp [s.k.f14]) (fun q hq => by simp only [List.mem_cons, List.not_mem_nil, or_false] at hq; rcases hq with rfl | rfl | rfl | rfl | rfl | rfl <;> simp [F18, F20, F22, F24, F26, F28]), by simp [s.f27], s.sx⟩
  · rintro m fr hh ⟨i, him, s, f29, f241, f242, f243⟩
    have sx := s.sx
    simp -dsimp (maxSteps := 1000000) (disch := first | omega | (simp only [new_n, put_n]; omega) | decide +kernel | (repeat first | rw [new_n] | rw [put_n])) only [wpS, wpT, Nat.reduceEqDiff, reduceIte, Nat.reduceLT, Nat.reduceLeDiff, Nat.reduceAdd, Nat.reduceMul, Nat.reduceBEq, Int.reduceToNat, tyK, f241, f242, f243]
    refine bq_intro ?_ ?_ <;> intro hc <;> simp only [bne_iff_ne, beq_iff_eq, decide_eq_true_eq, decide_eq_false_iff_not, bne_eq_false_iff_eq, beq_eq_false_iff_ne, ne_eq, Bool.not_eq_true', Bool.not_eq_false', Bool.not_eq_true, Bool.not_eq_false, Decidable.not_not, Bool.not_not] at hc
    · have hi : i < 10 := by omega
      have hix := sx.idx (P := Proofs.Tryd.prog) es38 (k := .i64) (j := i) (by omega)
      have hld := sx.ld (Keep.refl _) (c := i) (by simp [d5]; omega) (P := Proofs.Tryd.prog) (t := 47) ag47
      obtain ⟨y, hy⟩ : ∃ y, d5[i]? = some y := ⟨d5[i]'(by simp [d5]; omega), List.getElem?_eq_getElem _⟩
      have hmem := List.mem_of_getElem? hy
      have hld2 : load Proofs.Tryd.prog hh 47 (elemAddr x i) = some (K64 y) := by rw [hld, List.getElem?_map, hy]; rfl
      simp -dsimp (maxSteps := 1000000) (disch := first | omega | (simp only [new_n, put_n]; omega) | decide +kernel | (repeat first | rw [new_n] | rw [put_n])) only [wpS, wpT, Nat.reduceEqDiff, reduceIte, Nat.reduceLT, Nat.reduceLeDiff, Nat.reduceAdd, Nat.reduceMul, Nat.reduceBEq, Int.reduceToNat, tyK, f241, f242, f243, hix, hld2, f29]
      refine call (onesCount_ok y (d5_small y hmem)) ?_
      rintro _ h2 ⟨hh2, rfl⟩
      rw [hh2, d5_oc y hmem]
      simp -dsimp (maxSteps := 1000000) (disch := first | omega | (simp only [new_n, put_n]; omega) | decide +kernel | (repeat first | rw [new_n] | rw [put_n])) only [wpS, wpT, Nat.reduceEqDiff, reduceIte, Nat.reduceLT, Nat.reduceLeDiff, Nat.reduceAdd, Nat.reduceMul, Nat.reduceBEq, Int.reduceToNat, tyK, f241, f242, f243, f29]
      have F18 : fget fr 18 = some (KI 0) := s.k.l (18, KI 0) (by simp)
      have F20 : fget fr 20 = some (KI 2) := s.k.l (20, KI 2) (by simp)
      have F22 : fget fr 22 = some (KI 2) := s.k.l (22, KI 2) (by simp)
      have F24 : fget fr 24 = some (KI 2) := s.k.l (24, KI 2) (by simp)
      have F26 : fget fr 26 = some (KI 2) := s.k.l (26, KI 2) (by simp)
      have F28 : fget fr 28 = some (KI 0) := s.k.l (28, KI 0) (by simp)
      have e29 : ((2 * i : Nat) : Int) + ((2 : Nat) : Int) = ((2 * (i + 1) : Nat) : Int) := by omega
      have e243 : (i : Int) + 1 = ((i + 1 : Nat) : Int) := by omega
      refine ⟨m - 1, by omega, i + 1, by omega, ⟨s.k.ext (Ext.refl _) (by simp [s.k.x.f1]) (by simp [s.k.f4]) (by simp [s.k.f11]) (by simp [s.k.f12]) (by simp [s.k.f14]) (fun q hq => by simp only [List.mem_cons, List.not_mem_nil, or_false] at hq; rcases hq with rfl | rfl | rfl | rfl | rfl | rfl <;> simp [F18, F20, F22, F24, F26, F28]), by simp [s.f27], s.sx⟩, ?_, by simp [f241], by simp [f242], ?_⟩
      · rw [← e29]; simp
      · rw [← e243]; simp
    · obtain rfl : i = 10 := by omega
      simp -dsimp (maxSteps := 1000000) (disch := first | omega | (simp only [new_n, put_n]; omega) | decide +kernel | (repeat first | rw [new_n] | rw [put_n])) only [wpS, wpT, Nat.reduceEqDiff, reduceIte, Nat.reduceLT, Nat.reduceLeDiff, Nat.reduceAdd, Nat.reduceMul, Nat.reduceBEq, Int.reduceToNat, tyK, f29]
      have F18 : fget fr 18 = some (KI 0) := s.k.l (18, KI 0) (by simp)
      have F20 : fget fr 20 = some (KI 2) := s.k.l (20, KI 2) (by simp)
      have F22 : fget fr 22 = some (KI 2) := s.k.l (22, KI 2) (by simp)
      have F24 : fget fr 24 = some (KI 2) := s.k.l (24, KI 2) (by simp)
      have F26 : fget fr 26 = some (KI 2) := s.k.l (26, KI 2) (by simp)
      have F28 : fget fr 28 = some (KI 0) := s.k.l (28, KI 0) (by simp)
      exact ⟨⟨s.k.ext (Ext.refl _) (by simp [s.k.x.f1]) (by simp [s.k.f4]) (by simp [s.k.f11]) (by simp [s.k.f12]) (by simp [s.k.f14]) (fun q hq => by simp only [List.mem_cons, List.not_mem_nil, or_false] at hq; rcases hq with rfl | rfl | rfl | rfl | rfl | rfl <;> simp [F18, F20, F22, F24, F26, F28]), by simp [s.f27], s.sx⟩, by simp [f29]⟩
end Go.Id
