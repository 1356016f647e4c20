/-
  Contracts: lists; the chapter's examples. The statement EnumerateSets, on the ideal machine.
-/
import Derived.Test.YtcmfdbjgimekbaaDoorEnumeratePartsAp
import Derived.Test.YtcmfdbjgimekbaaDoorEnumeratePartsAo
set_option linter.unusedVariables false
set_option linter.unusedSimpArgs false
set_option linter.defProp false
set_option linter.deprecated false
/-! Contracts: lists; the chapter's examples. -/
namespace Go.Id
open Go

theorem planAt_len (F : Nat → Bool) (n k : Nat) : ∀ (m node : Nat) (cs : List Nat) (i : Nat), (planAt F n k m node cs i).length ≤ m
  | 0, _, _, _ => Nat.le_refl _
  | m + 1, node, cs, i => by
    unfold planAt
    split
    · have := planAt_len F n k m
      simp only [List.length_cons]
      exact Nat.succ_le_succ (this _ _ _)
    · simp
theorem lists_ok {h : IH} (hB : BaseT h) {n : Nat} {E : List (Nat × Nat)} {v w x : Value} {ws : List Int} {lo hi : Int} {k : Nat} (a : ArgsAt h n E v w ws lo hi k) {qs : List (List Nat)} (hq : PlansAt h x qs) (lq : qs.length ≤ 1000000) :
    WV Proofs.Tryd.prog (.func (.func 18) #[] #[]) [.agg #[KI n, v], .agg #[w, KI lo, KI hi, KI k], x] h fun r h' => Ext h h' ∧ r = .bool (decide (totalP n E ws lo hi k ≤ 400 ∧ plansP n E ws lo hi k = qs)) := by
  obtain ⟨hG, hn0, hn12, hV, hlen, hwl, hws, hd1, hd2, hlo, hlohi⟩ := enErr_ok a.ok
  refine enter (nt := 29) (rs := [.tmp 6]) Proofs.Tryd.func18 rfl rfl rfl (by simp) ?_
  simp -dsimp (maxSteps := 1000000) (disch := first | omega | (simp only [new_n, put_n]; omega) | decide +kernel | (repeat first | rw [new_n] | rw [put_n])) only [wpS, wpT, Nat.reduceEqDiff, reduceIte, Nat.reduceLT, Nat.reduceLeDiff, Nat.reduceAdd, Nat.reduceMul, Nat.reduceBEq, Int.reduceToNat, ld32, ld35, ln42]
  have e0 : ∀ o1 o2, Ext h ((h.new o1).new o2) := fun o1 o2 => ((Ext.refl h).new _).new _
  have a0 := a.keep (e0 (.cells [KI n, v] 0 none) (.cells [w, KI lo, KI hi, KI k] 0 none)).keep
  refine call (all_ok (hB.ext (e0 _ _)) a0) ?_
  rintro r h1 ⟨hE1, hr⟩
  have hE2 := (e0 _ _).trans hE1
  by_cases hT : totalP n E ws lo hi k ≤ 400
  · rw [if_pos hT] at hr
    obtain ⟨y, rfl, hy⟩ := hr
    have hlp : (plansP n E ws lo hi k).length = totalP n E ws lo hi k := by simp [plansP]
    simp -dsimp (maxSteps := 1000000) (disch := first | omega | (simp only [new_n, put_n]; omega) | decide +kernel | (repeat first | rw [new_n] | rw [put_n])) only [wpS, wpT, Nat.reduceEqDiff, reduceIte, Nat.reduceLT, Nat.reduceLeDiff, Nat.reduceAdd, Nat.reduceMul, Nat.reduceBEq, Int.reduceToNat, ld32, ld35, ln42]
    refine call (samePlans_ok hy (hq.keep hE2.keep) (by omega) fun p hp => ?_) ?_
    · obtain ⟨i, _, rfl⟩ := List.mem_map.1 hp
      have := planAt_len (fitsB E ws lo hi) n k n 0 [] i
      omega
    rintro _ h1' ⟨hh1, rfl⟩
    rw [hh1]
    have hr1 : h1.row (2 * h.n) = some [KI n, v] := by
      rw [hE1.row (.inr (by simp only [new_n]; omega)), row_even]; simp only [IH.cells]; simp (disch := first | omega | (simp only [new_n, put_n]; omega) | (repeat first | rw [new_n] | rw [put_n])) only [get_new_same, get_new_old, get_put_same, get_put_old]
    have hr2 : h1.row (2 * (h.n + 1)) = some [w, KI lo, KI hi, KI k] := by
      rw [hE1.row (.inr (by simp only [new_n]; omega)), row_even]; simp only [IH.cells]; simp (disch := first | omega | (simp only [new_n, put_n]; omega) | (repeat first | rw [new_n] | rw [put_n])) only [get_new_same, get_new_old, get_put_same, get_put_old]
    obtain ⟨us, hsl, hu⟩ := hq.keep hE2.keep
    by_cases hpq : plansP n E ws lo hi k = qs
    · simp -dsimp (maxSteps := 1000000) (disch := first | omega | (simp only [new_n, put_n]; omega) | decide +kernel | (repeat first | rw [new_n] | rw [put_n])) only [wpS, wpT, Nat.reduceEqDiff, reduceIte, Nat.reduceLT, Nat.reduceLeDiff, Nat.reduceAdd, Nat.reduceMul, Nat.reduceBEq, Int.reduceToNat, ld32, ld35, ln42, hr1, hr2, hsl.len sl42, decide_eq_true hpq]
      refine call (counts_ok (hB.ext hE2) (a.keep hE2.keep) (qs.length : Int) ⟨by omega, by omega⟩) ?_
      rintro _ h3 ⟨hE3, rfl⟩
      simp -dsimp (maxSteps := 1000000) (disch := first | omega | (simp only [new_n, put_n]; omega) | decide +kernel | (repeat first | rw [new_n] | rw [put_n])) only [wpS, wpT, Nat.reduceEqDiff, reduceIte, Nat.reduceLT, Nat.reduceLeDiff, Nat.reduceAdd, Nat.reduceMul, Nat.reduceBEq, Int.reduceToNat, ld32, ld35, ln42]
      refine ⟨hE2.trans hE3, ?_⟩
      have h4 : (totalP n E ws lo hi k : Int) = (qs.length : Int) := by rw [← hpq, hlp]
      rw [decide_eq_true h4, decide_eq_true ⟨hT, hpq⟩]
    · simp -dsimp (maxSteps := 1000000) (disch := first | omega | (simp only [new_n, put_n]; omega) | decide +kernel | (repeat first | rw [new_n] | rw [put_n])) only [wpS, wpT, Nat.reduceEqDiff, reduceIte, Nat.reduceLT, Nat.reduceLeDiff, Nat.reduceAdd, Nat.reduceMul, Nat.reduceBEq, Int.reduceToNat, ld32, ld35, ln42, decide_eq_false hpq]
      refine ⟨hE2, ?_⟩
      rw [decide_eq_false fun hh => hpq hh.2]
  · rw [if_neg hT] at hr
    subst hr
    simp -dsimp (maxSteps := 1000000) (disch := first | omega | (simp only [new_n, put_n]; omega) | decide +kernel | (repeat first | rw [new_n] | rw [put_n])) only [wpS, wpT, Nat.reduceEqDiff, reduceIte, Nat.reduceLT, Nat.reduceLeDiff, Nat.reduceAdd, Nat.reduceMul, Nat.reduceBEq, Int.reduceToNat, ld32, ld35, ln42]
    refine ⟨hE2, ?_⟩
    rw [decide_eq_false fun hh => hT hh.1]
theorem neq64 (x y : Nat) (P : Program) (t : TypeId) (o1 o2 : Operand) : binop P .neq t o1 o2 (K64 x) (K64 y) = some (.bool (decide (x ≠ y))) := by
  rw [binop_neq]
  by_cases h : x = y
  · subst h; simp
  · have h1 : ((x : Int) != (y : Int)) = true := by simp; omega
    rw [h1, decide_eq_true h]
theorem neqI (x y : Int) (P : Program) (t : TypeId) (o1 o2 : Operand) : binop P .neq t o1 o2 (KI x) (KI y) = some (.bool (decide (x ≠ y))) := by
  rw [binop_neq]
  by_cases h : x = y
  · subst h; simp
  · have h1 : (x != y) = true := by simpa using h
    rw [h1, decide_eq_true h]
/-- The two graphs, as works has them. -/
structure Wk (h hh : IH) (p c : Nat) (vp vc : Value) : Prop where
  e : Ext h hh
  rp : hh.row (2 * p) = some [KI ((4 : Nat) : Int), vp]
  rc : hh.row (2 * c) = some [KI ((4 : Nat) : Int), vc]
  lp : p < hh.n
  lc : c < hh.n
  sp : SlOf hh 2 vp 3 (eCells (castE pathE))
  sc : SlOf hh 2 vc 4 (eCells (castE cycE))
  b : BaseT hh
theorem Wk.ext {h hh h3 : IH} {p c : Nat} {vp vc : Value} (w : Wk h hh p c vp vc) (e : Ext hh h3) : Wk h h3 p c vp vc :=
  ⟨w.e.trans e, by rw [e.row (.inr (by have := w.lp; omega))]; exact w.rp, by rw [e.row (.inr (by have := w.lc; omega))]; exact w.rc, Nat.lt_of_lt_of_le w.lp e.n, Nat.lt_of_lt_of_le w.lc e.n, w.sp.ext e, w.sc.ext e, w.b.ext e⟩
theorem Wk.path {h hh : IH} {p c : Nat} {vp vc w : Value} (a : Wk h hh p c vp vc) (hw : SlOf hh 1 w 4 (List.replicate 4 (KI 1))) {lo hi : Int} {k : Nat} (h3 : 1 ≤ k ∧ k ≤ 8 ∧ 0 ≤ lo ∧ lo ≤ hi) (h4 : hi ≤ 1000) : ArgsAt hh 4 pathE vp w one4 lo hi k :=
  ⟨a.sp, hw, ⟨by omega, by omega⟩, ok_path one4 lo hi k rfl one4_ok h3⟩
theorem Wk.cycle {h hh : IH} {p c : Nat} {vp vc w : Value} (a : Wk h hh p c vp vc) (hw : SlOf hh 1 w 4 (List.replicate 4 (KI 1))) {lo hi : Int} {k : Nat} (h3 : 1 ≤ k ∧ k ≤ 8 ∧ 0 ≤ lo ∧ lo ≤ hi) (h4 : hi ≤ 1000) : ArgsAt hh 4 cycE vc w one4 lo hi k :=
  ⟨a.sc, hw, ⟨by omega, by omega⟩, ok_cyc one4 lo hi k rfl one4_ok h3⟩
set_option maxHeartbeats 8000000 in
theorem works_ok {h : IH} (hB : BaseT h) : WV Proofs.Tryd.prog (.func (.func 11) #[] #[]) [] h fun r h' => Ext h h' ∧ r = .bool true := by
  refine enter (nt := 101) (rs := [.tmp 0]) Proofs.Tryd.func11 rfl rfl rfl (by simp) ?_
  simp -dsimp (maxSteps := 1000000) (disch := first | omega | (simp only [new_n, put_n]; omega) | decide +kernel | (repeat first | rw [new_n] | rw [put_n])) only [wpS, wpT, Nat.reduceEqDiff, reduceIte, Nat.reduceLT, Nat.reduceLeDiff, Nat.reduceAdd, Nat.reduceMul, Nat.reduceBEq, Int.reduceToNat, zc32, st32, ld32, bs44, zc59, st59, bs42, bs38, ld59]
  refine call path_ok ?_
  rintro _ h1 ⟨hE1, vp, rfl, hvp⟩
  simp -dsimp (maxSteps := 1000000) (disch := first | omega | (simp only [new_n, put_n]; omega) | decide +kernel | (repeat first | rw [new_n] | rw [put_n])) only [wpS, wpT, Nat.reduceEqDiff, reduceIte, Nat.reduceLT, Nat.reduceLeDiff, Nat.reduceAdd, Nat.reduceMul, Nat.reduceBEq, Int.reduceToNat, zc32, st32, ld32, bs44, zc59, st59, bs42, bs38, ld59]
  refine call cycle_ok ?_
  rintro _ h2 ⟨hE2, vc, rfl, hvc⟩
  simp -dsimp (maxSteps := 1000000) (disch := first | omega | (simp only [new_n, put_n]; omega) | decide +kernel | (repeat first | rw [new_n] | rw [put_n])) only [wpS, wpT, Nat.reduceEqDiff, reduceIte, Nat.reduceLT, Nat.reduceLeDiff, Nat.reduceAdd, Nat.reduceMul, Nat.reduceBEq, Int.reduceToNat, zc32, st32, ld32, bs44, zc59, st59, bs42, bs38, ld59, List.drop_zero, take2, hvp.cok, hvc.cok]
  have eA : Ext h2 ((((h2.new (.cells [.int .i64 0, .slice none 0 0] 0 none)).new (.cells [.int .i64 0, .slice none 0 0] 0 none)).put h2.n (.cells [KI ((4 : Nat) : Int), vp] 0 none)).put (h2.n + 1) (.cells [KI ((4 : Nat) : Int), vc] 0 none)) := ((((Ext.refl h2).new _).new _).put (Nat.le_refl _) _).put (by omega) _
  have wA : Wk h ((((h2.new (.cells [.int .i64 0, .slice none 0 0] 0 none)).new (.cells [.int .i64 0, .slice none 0 0] 0 none)).put h2.n (.cells [KI ((4 : Nat) : Int), vp] 0 none)).put (h2.n + 1) (.cells [KI ((4 : Nat) : Int), vc] 0 none)) h2.n (h2.n + 1) vp vc := by
    refine ⟨(hE1.trans hE2).trans eA, ?_, ?_, by simp only [new_n, put_n]; omega, by simp only [new_n, put_n]; omega, (hvp.ext hE2).ext eA, hvc.ext eA, ((hB.ext hE1).ext hE2).ext eA⟩
    · rw [row_even]; simp only [IH.cells]; simp (disch := first | omega | (simp only [new_n, put_n]; omega) | (repeat first | rw [new_n] | rw [put_n])) only [get_new_same, get_new_old, get_put_same, get_put_old]
    · rw [row_even]; simp only [IH.cells]; simp (disch := first | omega | (simp only [new_n, put_n]; omega) | (repeat first | rw [new_n] | rw [put_n])) only [get_new_same, get_new_old, get_put_same, get_put_old]
  generalize ((((h2.new (.cells [.int .i64 0, .slice none 0 0] 0 none)).new (.cells [.int .i64 0, .slice none 0 0] 0 none)).put h2.n (.cells [KI ((4 : Nat) : Int), vp] 0 none)).put (h2.n + 1) (.cells [KI ((4 : Nat) : Int), vc] 0 none)) = hA at *
  generalize h2.n = p at *
  generalize hpc : p + 1 = c at *
  refine drawn [(0, [2])] (by kernel_rfl) (by kernel_rfl) rfl ?_
  simp -dsimp (maxSteps := 1000000) (disch := first | omega | (simp only [new_n, put_n]; omega) | decide +kernel | (repeat first | rw [new_n] | rw [put_n])) only [wpS, wpT, Nat.reduceEqDiff, reduceIte, Nat.reduceLT, Nat.reduceLeDiff, Nat.reduceAdd, Nat.reduceMul, Nat.reduceBEq, Int.reduceToNat, zc32, st32, ld32, bs44, zc59, st59, bs42, bs38, ld59, wA.rp, List.drop_zero, take2]
  refine call (ones_ok 4 2 2 1 (by decide)) ?_
  rintro _ h3 ⟨hE3, w3, rfl, hw3⟩
  have w3A := wA.ext hE3
  simp -dsimp (maxSteps := 1000000) (disch := first | omega | (simp only [new_n, put_n]; omega) | decide +kernel | (repeat first | rw [new_n] | rw [put_n])) only [wpS, wpT, Nat.reduceEqDiff, reduceIte, Nat.reduceLT, Nat.reduceLeDiff, Nat.reduceAdd, Nat.reduceMul, Nat.reduceBEq, Int.reduceToNat, zc32, st32, ld32, bs44, zc59, st59, bs42, bs38, ld59]
  have a3 := w3A.path hw3 (lo := 2) (hi := 2) (k := 1) (by decide) (by decide)
  refine call (districts_ok w3A.b a3.sE a3.sW a3.hhi a3.ok) ?_
  rintro _ h4 ⟨hE4, x4, rfl, hx4⟩
  rw [dist_path22] at hx4
  have w4A := w3A.ext hE4
  simp -dsimp (maxSteps := 1000000) (disch := first | omega | (simp only [new_n, put_n]; omega) | decide +kernel | (repeat first | rw [new_n] | rw [put_n])) only [wpS, wpT, Nat.reduceEqDiff, reduceIte, Nat.reduceLT, Nat.reduceLeDiff, Nat.reduceAdd, Nat.reduceMul, Nat.reduceBEq, Int.reduceToNat, zc32, st32, ld32, bs44, zc59, st59, bs42, bs38, ld59]
  refine ⟨wpSteady_one rfl rfl rfl rfl (steady_load (av := ptr (2 * p) 0) (v := .agg #[KI ((4 : Nat) : Int), vp]) rfl ?_ ?_), ?_⟩
  · simp -dsimp (maxSteps := 1000000) (disch := first | omega | (simp only [new_n, put_n]; omega) | decide +kernel | (repeat first | rw [new_n] | rw [put_n])) only [wpS, wpT, Nat.reduceEqDiff, reduceIte, Nat.reduceLT, Nat.reduceLeDiff, Nat.reduceAdd, Nat.reduceMul, Nat.reduceBEq, Int.reduceToNat, zc32, st32, ld32, bs44, zc59, st59, bs42, bs38, ld59, wA.rp, List.drop_zero, take2]
  · simp -dsimp (maxSteps := 1000000) (disch := first | omega | (simp only [new_n, put_n]; omega) | decide +kernel | (repeat first | rw [new_n] | rw [put_n])) only [wpS, wpT, Nat.reduceEqDiff, reduceIte, Nat.reduceLT, Nat.reduceLeDiff, Nat.reduceAdd, Nat.reduceMul, Nat.reduceBEq, Int.reduceToNat, zc32, st32, ld32, bs44, zc59, st59, bs42, bs38, ld59, w3A.rp, List.drop_zero, take2]
  simp -dsimp (maxSteps := 1000000) (disch := first | omega | (simp only [new_n, put_n]; omega) | decide +kernel | (repeat first | rw [new_n] | rw [put_n])) only [wpS, wpT, Nat.reduceEqDiff, reduceIte, Nat.reduceLT, Nat.reduceLeDiff, Nat.reduceAdd, Nat.reduceMul, Nat.reduceBEq, Int.reduceToNat, zc32, st32, ld32, bs44, zc59, st59, bs42, bs38, ld59]
  -- Kth of the cycle
  refine drawn [(0, [2, 3])] (by kernel_rfl) (by kernel_rfl) rfl ?_
  simp -dsimp (maxSteps := 1000000) (disch := first | omega | (simp only [new_n, put_n]; omega) | decide +kernel | (repeat first | rw [new_n] | rw [put_n])) only [wpS, wpT, Nat.reduceEqDiff, reduceIte, Nat.reduceLT, Nat.reduceLeDiff, Nat.reduceAdd, Nat.reduceMul, Nat.reduceBEq, Int.reduceToNat, zc32, st32, ld32, bs44, zc59, st59, bs42, bs38, ld59, w4A.rc, List.drop_zero, take2]
  refine call (ones_ok 4 1 3 2 (by decide)) ?_
  rintro _ h5 ⟨hE5, w5, rfl, hw5⟩
  have w5A := w4A.ext hE5
  simp -dsimp (maxSteps := 1000000) (disch := first | omega | (simp only [new_n, put_n]; omega) | decide +kernel | (repeat first | rw [new_n] | rw [put_n])) only [wpS, wpT, Nat.reduceEqDiff, reduceIte, Nat.reduceLT, Nat.reduceLeDiff, Nat.reduceAdd, Nat.reduceMul, Nat.reduceBEq, Int.reduceToNat, zc32, st32, ld32, bs44, zc59, st59, bs42, bs38, ld59]
  refine call (refOf_ok 0 (by decide)) ?_
  rintro _ h6 ⟨hE6, rfl⟩
  have w6A := w5A.ext hE6
  simp -dsimp (maxSteps := 1000000) (disch := first | omega | (simp only [new_n, put_n]; omega) | decide +kernel | (repeat first | rw [new_n] | rw [put_n])) only [wpS, wpT, Nat.reduceEqDiff, reduceIte, Nat.reduceLT, Nat.reduceLeDiff, Nat.reduceAdd, Nat.reduceMul, Nat.reduceBEq, Int.reduceToNat, zc32, st32, ld32, bs44, zc59, st59, bs42, bs38, ld59]
  have a6 := w6A.cycle (hw5.ext hE6) (lo := 1) (hi := 3) (k := 2) (by decide) (by decide)
  refine call (kth_ok w6A.b a6 (wideN 0) (wideN_small (by decide))) ?_
  rintro _ h7 ⟨hE7, hr7⟩
  rw [wdI_wideN (inW_of64 (by decide)), total_cyc13, if_pos (by decide)] at hr7
  obtain ⟨x7, rfl, hx7⟩ := hr7
  rw [show (0 : Int).toNat = 0 from rfl, plan_cyc13] at hx7
  have w7A := w6A.ext hE7
  simp -dsimp (maxSteps := 1000000) (disch := first | omega | (simp only [new_n, put_n]; omega) | decide +kernel | (repeat first | rw [new_n] | rw [put_n])) only [wpS, wpT, Nat.reduceEqDiff, reduceIte, Nat.reduceLT, Nat.reduceLeDiff, Nat.reduceAdd, Nat.reduceMul, Nat.reduceBEq, Int.reduceToNat, zc32, st32, ld32, bs44, zc59, st59, bs42, bs38, ld59]
  refine ⟨wpSteady_two (wpSteady_one rfl rfl rfl rfl (steady_load (av := ptr (2 * c) 0) (v := .agg #[KI ((4 : Nat) : Int), vc]) rfl ?_ ?_)) (wpSteady_one rfl rfl rfl rfl (steady_load (av := ptr (2 * c) 0) (v := .agg #[KI ((4 : Nat) : Int), vc]) rfl ?_ ?_)), ?_⟩
  · simp -dsimp (maxSteps := 1000000) (disch := first | omega | (simp only [new_n, put_n]; omega) | decide +kernel | (repeat first | rw [new_n] | rw [put_n])) only [wpS, wpT, Nat.reduceEqDiff, reduceIte, Nat.reduceLT, Nat.reduceLeDiff, Nat.reduceAdd, Nat.reduceMul, Nat.reduceBEq, Int.reduceToNat, zc32, st32, ld32, bs44, zc59, st59, bs42, bs38, ld59, w4A.rc, List.drop_zero, take2]
  · simp -dsimp (maxSteps := 1000000) (disch := first | omega | (simp only [new_n, put_n]; omega) | decide +kernel | (repeat first | rw [new_n] | rw [put_n])) only [wpS, wpT, Nat.reduceEqDiff, reduceIte, Nat.reduceLT, Nat.reduceLeDiff, Nat.reduceAdd, Nat.reduceMul, Nat.reduceBEq, Int.reduceToNat, zc32, st32, ld32, bs44, zc59, st59, bs42, bs38, ld59, w5A.rc, List.drop_zero, take2]
  · simp -dsimp (maxSteps := 1000000) (disch := first | omega | (simp only [new_n, put_n]; omega) | decide +kernel | (repeat first | rw [new_n] | rw [put_n])) only [wpS, wpT, Nat.reduceEqDiff, reduceIte, Nat.reduceLT, Nat.reduceLeDiff, Nat.reduceAdd, Nat.reduceMul, Nat.reduceBEq, Int.reduceToNat, zc32, st32, ld32, bs44, zc59, st59, bs42, bs38, ld59, w4A.rc, List.drop_zero, take2]
  · simp -dsimp (maxSteps := 1000000) (disch := first | omega | (simp only [new_n, put_n]; omega) | decide +kernel | (repeat first | rw [new_n] | rw [put_n])) only [wpS, wpT, Nat.reduceEqDiff, reduceIte, Nat.reduceLT, Nat.reduceLeDiff, Nat.reduceAdd, Nat.reduceMul, Nat.reduceBEq, Int.reduceToNat, zc32, st32, ld32, bs44, zc59, st59, bs42, bs38, ld59, w6A.rc, List.drop_zero, take2]
  simp -dsimp (maxSteps := 1000000) (disch := first | omega | (simp only [new_n, put_n]; omega) | decide +kernel | (repeat first | rw [new_n] | rw [put_n])) only [wpS, wpT, Nat.reduceEqDiff, reduceIte, Nat.reduceLT, Nat.reduceLeDiff, Nat.reduceAdd, Nat.reduceMul, Nat.reduceBEq, Int.reduceToNat, zc32, st32, ld32, bs44, zc59, st59, bs42, bs38, ld59]
  -- Index of the cycle
  refine drawn [(0, [3])] (by kernel_rfl) (by kernel_rfl) rfl ?_
  simp -dsimp (maxSteps := 1000000) (disch := first | omega | (simp only [new_n, put_n]; omega) | decide +kernel | (repeat first | rw [new_n] | rw [put_n])) only [wpS, wpT, Nat.reduceEqDiff, reduceIte, Nat.reduceLT, Nat.reduceLeDiff, Nat.reduceAdd, Nat.reduceMul, Nat.reduceBEq, Int.reduceToNat, zc32, st32, ld32, bs44, zc59, st59, bs42, bs38, ld59, w7A.rc, List.drop_zero, take2]
  refine call (ones_ok 4 1 3 2 (by decide)) ?_
  rintro _ h8 ⟨hE8, w8, rfl, hw8⟩
  have w8A := w7A.ext hE8
  simp -dsimp (maxSteps := 1000000) (disch := first | omega | (simp only [new_n, put_n]; omega) | decide +kernel | (repeat first | rw [new_n] | rw [put_n])) only [wpS, wpT, Nat.reduceEqDiff, reduceIte, Nat.reduceLT, Nat.reduceLeDiff, Nat.reduceAdd, Nat.reduceMul, Nat.reduceBEq, Int.reduceToNat, zc32, st32, ld32, bs44, zc59, st59, bs42, bs38, ld59]
  have n8 : Ext h8 (h8.new (.cells [.int .i64 0, .int .i64 1, .int .i64 1, .int .i64 0] 1 none)) := (Ext.refl h8).new _
  have w8B := w8A.ext n8
  have a8 := w8B.cycle (hw8.ext n8) (lo := 1) (hi := 3) (k := 2) (by decide) (by decide)
  refine call (index_ok w8B.b a8 (p := [0, 1, 1, 0]) (sl_block (k := h8.n) (f := none) (get_new_same _ _ rfl) (by simp only [new_n]; omega) (by decide) rfl (by decide) (by decide))) ?_
  rintro _ h9 ⟨hE9, rfl⟩
  rw [idx_cyc13]
  have w9A := w8B.ext hE9
  have hspl : ∀ n, IH.splice [.int .u64 0, .int .u64 0, .int .u64 0, .int .u64 0, .int .u64 0, .int .u64 0, .int .u64 0, .int .u64 0] 0 (wdC n) = wdC n := fun n => splice_all (by rw [wdC_len]; rfl)
  simp -dsimp (maxSteps := 1000000) (disch := first | omega | (simp only [new_n, put_n]; omega) | decide +kernel | (repeat first | rw [new_n] | rw [put_n])) only [wpS, wpT, Nat.reduceEqDiff, reduceIte, Nat.reduceLT, Nat.reduceLeDiff, Nat.reduceAdd, Nat.reduceMul, Nat.reduceBEq, Int.reduceToNat, zc32, st32, ld32, bs44, zc59, st59, bs42, bs38, ld59, wdV_form, wdC_len, wdC_all, hspl, wd_take]
  refine ⟨wpSteady_one rfl rfl rfl rfl (steady_load (av := ptr (2 * c) 0) (v := .agg #[KI ((4 : Nat) : Int), vc]) rfl ?_ ?_), ?_⟩
  · simp -dsimp (maxSteps := 1000000) (disch := first | omega | (simp only [new_n, put_n]; omega) | decide +kernel | (repeat first | rw [new_n] | rw [put_n])) only [wpS, wpT, Nat.reduceEqDiff, reduceIte, Nat.reduceLT, Nat.reduceLeDiff, Nat.reduceAdd, Nat.reduceMul, Nat.reduceBEq, Int.reduceToNat, zc32, st32, ld32, bs44, zc59, st59, bs42, bs38, ld59, w7A.rc, List.drop_zero, take2]
  · simp -dsimp (maxSteps := 1000000) (disch := first | omega | (simp only [new_n, put_n]; omega) | decide +kernel | (repeat first | rw [new_n] | rw [put_n])) only [wpS, wpT, Nat.reduceEqDiff, reduceIte, Nat.reduceLT, Nat.reduceLeDiff, Nat.reduceAdd, Nat.reduceMul, Nat.reduceBEq, Int.reduceToNat, zc32, st32, ld32, bs44, zc59, st59, bs42, bs38, ld59, w8B.rc, List.drop_zero, take2]
  simp -dsimp (maxSteps := 1000000) (disch := first | omega | (simp only [new_n, put_n]; omega) | decide +kernel | (repeat first | rw [new_n] | rw [put_n])) only [wpS, wpT, Nat.reduceEqDiff, reduceIte, Nat.reduceLT, Nat.reduceLeDiff, Nat.reduceAdd, Nat.reduceMul, Nat.reduceBEq, Int.reduceToNat, zc32, st32, ld32, bs44, zc59, st59, bs42, bs38, ld59, wdV_form, wdC_len, wdC_all, hspl, wd_take]
  have eB : Ext h9 ((h9.new (.cells [.int .u64 0, .int .u64 0, .int .u64 0, .int .u64 0, .int .u64 0, .int .u64 0, .int .u64 0, .int .u64 0] 0 none)).put h9.n (.cells (wdC (wideN 4)) 0 none)) := ((Ext.refl h9).new _).put (Nat.le_refl _) _
  have gB : ((h9.new (.cells [.int .u64 0, .int .u64 0, .int .u64 0, .int .u64 0, .int .u64 0, .int .u64 0, .int .u64 0, .int .u64 0] 0 none)).put h9.n (.cells (wdC (wideN 4)) 0 none)).ext.get h9.n = some (.cells (wdC (wideN 4)) 0 none) := get_put_same _ _ rfl
  have w10 := w9A.ext eB
  have nB : h9.n < ((h9.new (.cells [.int .u64 0, .int .u64 0, .int .u64 0, .int .u64 0, .int .u64 0, .int .u64 0, .int .u64 0, .int .u64 0] 0 none)).put h9.n (.cells (wdC (wideN 4)) 0 none)).n := by simp only [new_n, put_n]; omega
  have eAll := (((((hE4.trans hE5).trans hE6).trans hE7).trans hE8).trans n8).trans (hE9.trans eB)
  have hx4' := hx4.ext ((((((hE5.trans hE6).trans hE7).trans hE8).trans n8).trans hE9).trans eB)
  have hx7' := hx7.ext (((hE8.trans n8).trans hE9).trans eB)
  generalize ((h9.new (.cells [.int .u64 0, .int .u64 0, .int .u64 0, .int .u64 0, .int .u64 0, .int .u64 0, .int .u64 0, .int .u64 0] 0 none)).put h9.n (.cells (wdC (wideN 4)) 0 none)) = hB2 at *
  generalize h9.n = t at *
  -- Kth of the path
  refine drawn [(0, [2, 3])] (by kernel_rfl) (by kernel_rfl) rfl ?_
  simp -dsimp (maxSteps := 1000000) (disch := first | omega | (simp only [new_n, put_n]; omega) | decide +kernel | (repeat first | rw [new_n] | rw [put_n])) only [wpS, wpT, Nat.reduceEqDiff, reduceIte, Nat.reduceLT, Nat.reduceLeDiff, Nat.reduceAdd, Nat.reduceMul, Nat.reduceBEq, Int.reduceToNat, zc32, st32, ld32, bs44, zc59, st59, bs42, bs38, ld59, w10.rp, List.drop_zero, take2]
  refine call (ones_ok 4 2 2 2 (by decide)) ?_
  rintro _ h11 ⟨hE11, v11, rfl, hv11⟩
  have w11A := w10.ext hE11
  simp -dsimp (maxSteps := 1000000) (disch := first | omega | (simp only [new_n, put_n]; omega) | decide +kernel | (repeat first | rw [new_n] | rw [put_n])) only [wpS, wpT, Nat.reduceEqDiff, reduceIte, Nat.reduceLT, Nat.reduceLeDiff, Nat.reduceAdd, Nat.reduceMul, Nat.reduceBEq, Int.reduceToNat, zc32, st32, ld32, bs44, zc59, st59, bs42, bs38, ld59]
  refine call (refOf_ok 1 (by decide)) ?_
  rintro _ h12 ⟨hE12, rfl⟩
  have w12A := w11A.ext hE12
  simp -dsimp (maxSteps := 1000000) (disch := first | omega | (simp only [new_n, put_n]; omega) | decide +kernel | (repeat first | rw [new_n] | rw [put_n])) only [wpS, wpT, Nat.reduceEqDiff, reduceIte, Nat.reduceLT, Nat.reduceLeDiff, Nat.reduceAdd, Nat.reduceMul, Nat.reduceBEq, Int.reduceToNat, zc32, st32, ld32, bs44, zc59, st59, bs42, bs38, ld59]
  have a12 := w12A.path (hv11.ext hE12) (lo := 2) (hi := 2) (k := 2) (by decide) (by decide)
  refine call (kth_ok w12A.b a12 (wideN 1) (wideN_small (by decide))) ?_
  rintro _ h13 ⟨hE13, hr13⟩
  rw [wdI_wideN (inW_of64 (by decide)), total_path22, if_neg (by decide)] at hr13
  subst hr13
  have w13A := w12A.ext hE13
  simp -dsimp (maxSteps := 1000000) (disch := first | omega | (simp only [new_n, put_n]; omega) | decide +kernel | (repeat first | rw [new_n] | rw [put_n])) only [wpS, wpT, Nat.reduceEqDiff, reduceIte, Nat.reduceLT, Nat.reduceLeDiff, Nat.reduceAdd, Nat.reduceMul, Nat.reduceBEq, Int.reduceToNat, zc32, st32, ld32, bs44, zc59, st59, bs42, bs38, ld59]
  refine ⟨wpSteady_two (wpSteady_one rfl rfl rfl rfl (steady_load (av := ptr (2 * p) 0) (v := .agg #[KI ((4 : Nat) : Int), vp]) rfl ?_ ?_)) (wpSteady_one rfl rfl rfl rfl (steady_load (av := ptr (2 * p) 0) (v := .agg #[KI ((4 : Nat) : Int), vp]) rfl ?_ ?_)), ?_⟩
  · simp -dsimp (maxSteps := 1000000) (disch := first | omega | (simp only [new_n, put_n]; omega) | decide +kernel | (repeat first | rw [new_n] | rw [put_n])) only [wpS, wpT, Nat.reduceEqDiff, reduceIte, Nat.reduceLT, Nat.reduceLeDiff, Nat.reduceAdd, Nat.reduceMul, Nat.reduceBEq, Int.reduceToNat, zc32, st32, ld32, bs44, zc59, st59, bs42, bs38, ld59, w10.rp, List.drop_zero, take2]
  · simp -dsimp (maxSteps := 1000000) (disch := first | omega | (simp only [new_n, put_n]; omega) | decide +kernel | (repeat first | rw [new_n] | rw [put_n])) only [wpS, wpT, Nat.reduceEqDiff, reduceIte, Nat.reduceLT, Nat.reduceLeDiff, Nat.reduceAdd, Nat.reduceMul, Nat.reduceBEq, Int.reduceToNat, zc32, st32, ld32, bs44, zc59, st59, bs42, bs38, ld59, w11A.rp, List.drop_zero, take2]
  · simp -dsimp (maxSteps := 1000000) (disch := first | omega | (simp only [new_n, put_n]; omega) | decide +kernel | (repeat first | rw [new_n] | rw [put_n])) only [wpS, wpT, Nat.reduceEqDiff, reduceIte, Nat.reduceLT, Nat.reduceLeDiff, Nat.reduceAdd, Nat.reduceMul, Nat.reduceBEq, Int.reduceToNat, zc32, st32, ld32, bs44, zc59, st59, bs42, bs38, ld59, w10.rp, List.drop_zero, take2]
  · simp -dsimp (maxSteps := 1000000) (disch := first | omega | (simp only [new_n, put_n]; omega) | decide +kernel | (repeat first | rw [new_n] | rw [put_n])) only [wpS, wpT, Nat.reduceEqDiff, reduceIte, Nat.reduceLT, Nat.reduceLeDiff, Nat.reduceAdd, Nat.reduceMul, Nat.reduceBEq, Int.reduceToNat, zc32, st32, ld32, bs44, zc59, st59, bs42, bs38, ld59, w12A.rp, List.drop_zero, take2]
  simp -dsimp (maxSteps := 1000000) (disch := first | omega | (simp only [new_n, put_n]; omega) | decide +kernel | (repeat first | rw [new_n] | rw [put_n])) only [wpS, wpT, Nat.reduceEqDiff, reduceIte, Nat.reduceLT, Nat.reduceLeDiff, Nat.reduceAdd, Nat.reduceMul, Nat.reduceBEq, Int.reduceToNat, zc32, st32, ld32, bs44, zc59, st59, bs42, bs38, ld59]
  -- Index of the path
  refine drawn [(0, [3])] (by kernel_rfl) (by kernel_rfl) rfl ?_
  simp -dsimp (maxSteps := 1000000) (disch := first | omega | (simp only [new_n, put_n]; omega) | decide +kernel | (repeat first | rw [new_n] | rw [put_n])) only [wpS, wpT, Nat.reduceEqDiff, reduceIte, Nat.reduceLT, Nat.reduceLeDiff, Nat.reduceAdd, Nat.reduceMul, Nat.reduceBEq, Int.reduceToNat, zc32, st32, ld32, bs44, zc59, st59, bs42, bs38, ld59, w13A.rp, List.drop_zero, take2]
  refine call (ones_ok 4 1 3 2 (by decide)) ?_
  rintro _ h14 ⟨hE14, v14, rfl, hv14⟩
  have w14A := w13A.ext hE14
  simp -dsimp (maxSteps := 1000000) (disch := first | omega | (simp only [new_n, put_n]; omega) | decide +kernel | (repeat first | rw [new_n] | rw [put_n])) only [wpS, wpT, Nat.reduceEqDiff, reduceIte, Nat.reduceLT, Nat.reduceLeDiff, Nat.reduceAdd, Nat.reduceMul, Nat.reduceBEq, Int.reduceToNat, zc32, st32, ld32, bs44, zc59, st59, bs42, bs38, ld59]
  have n14 : Ext h14 (h14.new (.cells [.int .i64 1, .int .i64 1, .int .i64 0, .int .i64 0] 1 none)) := (Ext.refl h14).new _
  have w14B := w14A.ext n14
  have a14 := w14B.path (hv14.ext n14) (lo := 1) (hi := 3) (k := 2) (by decide) (by decide)
  refine call (index_ok w14B.b a14 (p := [1, 1, 0, 0]) (sl_block (k := h14.n) (f := none) (get_new_same _ _ rfl) (by simp only [new_n]; omega) (by decide) rfl (by decide) (by decide))) ?_
  rintro _ h15 ⟨hE15, rfl⟩
  rw [idx_path13]
  have w15A := w14B.ext hE15
  simp -dsimp (maxSteps := 1000000) (disch := first | omega | (simp only [new_n, put_n]; omega) | decide +kernel | (repeat first | rw [new_n] | rw [put_n])) only [wpS, wpT, Nat.reduceEqDiff, reduceIte, Nat.reduceLT, Nat.reduceLeDiff, Nat.reduceAdd, Nat.reduceMul, Nat.reduceBEq, Int.reduceToNat, zc32, st32, ld32, bs44, zc59, st59, bs42, bs38, ld59, wdV_form, wdC_len, wdC_all, hspl, wd_take]
  refine ⟨wpSteady_one rfl rfl rfl rfl (steady_load (av := ptr (2 * p) 0) (v := .agg #[KI ((4 : Nat) : Int), vp]) rfl ?_ ?_), ?_⟩
  · simp -dsimp (maxSteps := 1000000) (disch := first | omega | (simp only [new_n, put_n]; omega) | decide +kernel | (repeat first | rw [new_n] | rw [put_n])) only [wpS, wpT, Nat.reduceEqDiff, reduceIte, Nat.reduceLT, Nat.reduceLeDiff, Nat.reduceAdd, Nat.reduceMul, Nat.reduceBEq, Int.reduceToNat, zc32, st32, ld32, bs44, zc59, st59, bs42, bs38, ld59, w13A.rp, List.drop_zero, take2]
  · simp -dsimp (maxSteps := 1000000) (disch := first | omega | (simp only [new_n, put_n]; omega) | decide +kernel | (repeat first | rw [new_n] | rw [put_n])) only [wpS, wpT, Nat.reduceEqDiff, reduceIte, Nat.reduceLT, Nat.reduceLeDiff, Nat.reduceAdd, Nat.reduceMul, Nat.reduceBEq, Int.reduceToNat, zc32, st32, ld32, bs44, zc59, st59, bs42, bs38, ld59, w14B.rp, List.drop_zero, take2]
  simp -dsimp (maxSteps := 1000000) (disch := first | omega | (simp only [new_n, put_n]; omega) | decide +kernel | (repeat first | rw [new_n] | rw [put_n])) only [wpS, wpT, Nat.reduceEqDiff, reduceIte, Nat.reduceLT, Nat.reduceLeDiff, Nat.reduceAdd, Nat.reduceMul, Nat.reduceBEq, Int.reduceToNat, zc32, st32, ld32, bs44, zc59, st59, bs42, bs38, ld59, wdV_form, wdC_len, wdC_all, hspl, wd_take]
  have eC : Ext h15 ((h15.new (.cells [.int .u64 0, .int .u64 0, .int .u64 0, .int .u64 0, .int .u64 0, .int .u64 0, .int .u64 0, .int .u64 0] 0 none)).put h15.n (.cells (wdC 0) 0 none)) := ((Ext.refl h15).new _).put (Nat.le_refl _) _
  have w16 := w15A.ext eC
  have eD := (((((hE11.trans hE12).trans hE13).trans hE14).trans n14).trans hE15).trans eC
  generalize ((h15.new (.cells [.int .u64 0, .int .u64 0, .int .u64 0, .int .u64 0, .int .u64 0, .int .u64 0, .int .u64 0, .int .u64 0] 0 none)).put h15.n (.cells (wdC 0) 0 none)) = hC at *
  -- the lists
  refine drawn [(0, [6]), (8, [13])] (by kernel_rfl) (by kernel_rfl) rfl ?_
  simp -dsimp (maxSteps := 1000000) (disch := first | omega | (simp only [new_n, put_n]; omega) | decide +kernel | (repeat first | rw [new_n] | rw [put_n])) only [wpS, wpT, Nat.reduceEqDiff, reduceIte, Nat.reduceLT, Nat.reduceLeDiff, Nat.reduceAdd, Nat.reduceMul, Nat.reduceBEq, Int.reduceToNat, zc32, st32, ld32, bs44, zc59, st59, bs42, bs38, ld59, w16.rp, List.drop_zero, take2]
  refine call (ones_ok 4 1 3 2 (by decide)) ?_
  rintro _ h17 ⟨hE17, v17, rfl, hv17⟩
  have w17A := w16.ext hE17
  simp -dsimp (maxSteps := 1000000) (disch := first | omega | (simp only [new_n, put_n]; omega) | decide +kernel | (repeat first | rw [new_n] | rw [put_n])) only [wpS, wpT, Nat.reduceEqDiff, reduceIte, Nat.reduceLT, Nat.reduceLeDiff, Nat.reduceAdd, Nat.reduceMul, Nat.reduceBEq, Int.reduceToNat, zc32, st32, ld32, bs44, zc59, st59, bs42, bs38, ld59]
  have n17 : Ext h17 (((((h17.new (.cells [.int .i64 0, .int .i64 0, .int .i64 0, .int .i64 1] 1 none)).new (.cells [.int .i64 0, .int .i64 0, .int .i64 1, .int .i64 1] 1 none)).new (.cells [.int .i64 0, .int .i64 1, .int .i64 1, .int .i64 1] 1 none)).new (.cells [.slice (some ⟨2 * (h17.n), 0, none⟩) 4 9, .slice (some ⟨2 * (h17.n + 1), 0, none⟩) 4 9, .slice (some ⟨2 * (h17.n + 1 + 1), 0, none⟩) 4 9] 1 none))) := ((((Ext.refl h17).new _).new _).new _).new _
  have pl1 : PlansAt (((((h17.new (.cells [.int .i64 0, .int .i64 0, .int .i64 0, .int .i64 1] 1 none)).new (.cells [.int .i64 0, .int .i64 0, .int .i64 1, .int .i64 1] 1 none)).new (.cells [.int .i64 0, .int .i64 1, .int .i64 1, .int .i64 1] 1 none)).new (.cells [.slice (some ⟨2 * (h17.n), 0, none⟩) 4 9, .slice (some ⟨2 * (h17.n + 1), 0, none⟩) 4 9, .slice (some ⟨2 * (h17.n + 1 + 1), 0, none⟩) 4 9] 1 none))) (.slice (some ⟨2 * (h17.n + 1 + 1 + 1), 0, none⟩) 3 7) [[0, 0, 0, 1], [0, 0, 1, 1], [0, 1, 1, 1]] := by
    refine ⟨[.slice (some ⟨2 * (h17.n), 0, none⟩) 4 9, .slice (some ⟨2 * (h17.n + 1), 0, none⟩) 4 9, .slice (some ⟨2 * (h17.n + 1 + 1), 0, none⟩) 4 9], sl_block (k := h17.n + 1 + 1 + 1) (f := none) ?_ (by simp only [new_n]; omega) (by decide) rfl (by decide) (by decide), ?_⟩
    · simp (disch := first | omega | (simp only [new_n, put_n]; omega) | (repeat first | rw [new_n] | rw [put_n])) only [get_new_same, get_new_old, get_put_same, get_put_old]
    intro i p hp
    match i, hp with
    | 0, hp =>
      cases hp
      refine ⟨_, rfl, sl_block (k := h17.n) (f := none) ?_ (by simp only [new_n]; omega) (by decide) rfl (by decide) (by decide)⟩
      simp (disch := first | omega | (simp only [new_n, put_n]; omega) | (repeat first | rw [new_n] | rw [put_n])) only [get_new_same, get_new_old, get_put_same, get_put_old]
      rfl
    | 1, hp =>
      cases hp
      refine ⟨_, rfl, sl_block (k := h17.n + 1) (f := none) ?_ (by simp only [new_n]; omega) (by decide) rfl (by decide) (by decide)⟩
      simp (disch := first | omega | (simp only [new_n, put_n]; omega) | (repeat first | rw [new_n] | rw [put_n])) only [get_new_same, get_new_old, get_put_same, get_put_old]
      rfl
    | 2, hp =>
      cases hp
      refine ⟨_, rfl, sl_block (k := h17.n + 1 + 1) (f := none) ?_ (by simp only [new_n]; omega) (by decide) rfl (by decide) (by decide)⟩
      simp (disch := first | omega | (simp only [new_n, put_n]; omega) | (repeat first | rw [new_n] | rw [put_n])) only [get_new_same, get_new_old, get_put_same, get_put_old]
      rfl
    | i + 3, hp => simp at hp
  have w17B := w17A.ext n17
  have a17 := w17B.path (hv17.ext n17) (lo := 1) (hi := 3) (k := 2) (by decide) (by decide)
  refine call (lists_ok w17B.b a17 pl1 (by decide)) ?_
  rintro _ h18 ⟨hE18, rfl⟩
  rw [decide_eq_true ⟨by rw [total_path13]; decide, plans_path13⟩]
  have w18A := w17B.ext hE18
  simp -dsimp (maxSteps := 1000000) (disch := first | omega | (simp only [new_n, put_n]; omega) | decide +kernel | (repeat first | rw [new_n] | rw [put_n])) only [wpS, wpT, Nat.reduceEqDiff, reduceIte, Nat.reduceLT, Nat.reduceLeDiff, Nat.reduceAdd, Nat.reduceMul, Nat.reduceBEq, Int.reduceToNat, zc32, st32, ld32, bs44, zc59, st59, bs42, bs38, ld59, w18A.rc, List.drop_zero, take2]
  refine call (ones_ok 4 2 2 2 (by decide)) ?_
  rintro _ h19 ⟨hE19, v19, rfl, hv19⟩
  have w19A := w18A.ext hE19
  simp -dsimp (maxSteps := 1000000) (disch := first | omega | (simp only [new_n, put_n]; omega) | decide +kernel | (repeat first | rw [new_n] | rw [put_n])) only [wpS, wpT, Nat.reduceEqDiff, reduceIte, Nat.reduceLT, Nat.reduceLeDiff, Nat.reduceAdd, Nat.reduceMul, Nat.reduceBEq, Int.reduceToNat, zc32, st32, ld32, bs44, zc59, st59, bs42, bs38, ld59]
  have n19 : Ext h19 ((((h19.new (.cells [.int .i64 0, .int .i64 0, .int .i64 1, .int .i64 1] 1 none)).new (.cells [.int .i64 0, .int .i64 1, .int .i64 1, .int .i64 0] 1 none)).new (.cells [.slice (some ⟨2 * (h19.n), 0, none⟩) 4 9, .slice (some ⟨2 * (h19.n + 1), 0, none⟩) 4 9] 1 none))) := (((Ext.refl h19).new _).new _).new _
  have pl2 : PlansAt ((((h19.new (.cells [.int .i64 0, .int .i64 0, .int .i64 1, .int .i64 1] 1 none)).new (.cells [.int .i64 0, .int .i64 1, .int .i64 1, .int .i64 0] 1 none)).new (.cells [.slice (some ⟨2 * (h19.n), 0, none⟩) 4 9, .slice (some ⟨2 * (h19.n + 1), 0, none⟩) 4 9] 1 none))) (.slice (some ⟨2 * (h19.n + 1 + 1), 0, none⟩) 2 5) [[0, 0, 1, 1], [0, 1, 1, 0]] := by
    refine ⟨[.slice (some ⟨2 * (h19.n), 0, none⟩) 4 9, .slice (some ⟨2 * (h19.n + 1), 0, none⟩) 4 9], sl_block (k := h19.n + 1 + 1) (f := none) ?_ (by simp only [new_n]; omega) (by decide) rfl (by decide) (by decide), ?_⟩
    · simp (disch := first | omega | (simp only [new_n, put_n]; omega) | (repeat first | rw [new_n] | rw [put_n])) only [get_new_same, get_new_old, get_put_same, get_put_old]
    intro i p hp
    match i, hp with
    | 0, hp =>
      cases hp
      refine ⟨_, rfl, sl_block (k := h19.n) (f := none) ?_ (by simp only [new_n]; omega) (by decide) rfl (by decide) (by decide)⟩
      simp (disch := first | omega | (simp only [new_n, put_n]; omega) | (repeat first | rw [new_n] | rw [put_n])) only [get_new_same, get_new_old, get_put_same, get_put_old]
      rfl
    | 1, hp =>
      cases hp
      refine ⟨_, rfl, sl_block (k := h19.n + 1) (f := none) ?_ (by simp only [new_n]; omega) (by decide) rfl (by decide) (by decide)⟩
      simp (disch := first | omega | (simp only [new_n, put_n]; omega) | (repeat first | rw [new_n] | rw [put_n])) only [get_new_same, get_new_old, get_put_same, get_put_old]
      rfl
    | i + 2, hp => simp at hp
  have w19B := w19A.ext n19
  have a19 := w19B.cycle (hv19.ext n19) (lo := 2) (hi := 2) (k := 2) (by decide) (by decide)
  refine call (lists_ok w19B.b a19 pl2 (by decide)) ?_
  rintro _ h20 ⟨hE20, rfl⟩
  rw [decide_eq_true ⟨by rw [total_cyc22]; decide, plans_cyc22⟩]
  have w20A := w19B.ext hE20
  simp -dsimp (maxSteps := 1000000) (disch := first | omega | (simp only [new_n, put_n]; omega) | decide +kernel | (repeat first | rw [new_n] | rw [put_n])) only [wpS, wpT, Nat.reduceEqDiff, reduceIte, Nat.reduceLT, Nat.reduceLeDiff, Nat.reduceAdd, Nat.reduceMul, Nat.reduceBEq, Int.reduceToNat, zc32, st32, ld32, bs44, zc59, st59, bs42, bs38, ld59]
  refine ⟨wpSteady_cons (wpSteady_one rfl rfl rfl rfl (steady_load (av := ptr (2 * p) 0) (v := .agg #[KI ((4 : Nat) : Int), vp]) rfl ?_ ?_)) (wpSteady_one rfl rfl rfl rfl (steady_load (av := ptr (2 * c) 0) (v := .agg #[KI ((4 : Nat) : Int), vc]) rfl ?_ ?_)), ?_⟩
  · simp -dsimp (maxSteps := 1000000) (disch := first | omega | (simp only [new_n, put_n]; omega) | decide +kernel | (repeat first | rw [new_n] | rw [put_n])) only [wpS, wpT, Nat.reduceEqDiff, reduceIte, Nat.reduceLT, Nat.reduceLeDiff, Nat.reduceAdd, Nat.reduceMul, Nat.reduceBEq, Int.reduceToNat, zc32, st32, ld32, bs44, zc59, st59, bs42, bs38, ld59, w16.rp, List.drop_zero, take2]
  · simp -dsimp (maxSteps := 1000000) (disch := first | omega | (simp only [new_n, put_n]; omega) | decide +kernel | (repeat first | rw [new_n] | rw [put_n])) only [wpS, wpT, Nat.reduceEqDiff, reduceIte, Nat.reduceLT, Nat.reduceLeDiff, Nat.reduceAdd, Nat.reduceMul, Nat.reduceBEq, Int.reduceToNat, zc32, st32, ld32, bs44, zc59, st59, bs42, bs38, ld59, w17B.rp, List.drop_zero, take2]
  · simp -dsimp (maxSteps := 1000000) (disch := first | omega | (simp only [new_n, put_n]; omega) | decide +kernel | (repeat first | rw [new_n] | rw [put_n])) only [wpS, wpT, Nat.reduceEqDiff, reduceIte, Nat.reduceLT, Nat.reduceLeDiff, Nat.reduceAdd, Nat.reduceMul, Nat.reduceBEq, Int.reduceToNat, zc32, st32, ld32, bs44, zc59, st59, bs42, bs38, ld59, w18A.rc, List.drop_zero, take2]
  · simp -dsimp (maxSteps := 1000000) (disch := first | omega | (simp only [new_n, put_n]; omega) | decide +kernel | (repeat first | rw [new_n] | rw [put_n])) only [wpS, wpT, Nat.reduceEqDiff, reduceIte, Nat.reduceLT, Nat.reduceLeDiff, Nat.reduceAdd, Nat.reduceMul, Nat.reduceBEq, Int.reduceToNat, zc32, st32, ld32, bs44, zc59, st59, bs42, bs38, ld59, w19B.rc, List.drop_zero, take2]
  simp -dsimp (maxSteps := 1000000) (disch := first | omega | (simp only [new_n, put_n]; omega) | decide +kernel | (repeat first | rw [new_n] | rw [put_n])) only [wpS, wpT, Nat.reduceEqDiff, reduceIte, Nat.reduceLT, Nat.reduceLeDiff, Nat.reduceAdd, Nat.reduceMul, Nat.reduceBEq, Int.reduceToNat, zc32, st32, ld32, bs44, zc59, st59, bs42, bs38, ld59]
  -- the answer
  have eE := ((((eD.trans hE17).trans n17).trans hE18).trans hE19).trans (n19.trans hE20)
  have hx4f := hx4'.ext eE
  have hx7f := hx7'.ext eE
  have gF : h20.row (2 * t) = some (wdC (wideN 4)) := by rw [eE.row (.inr (by omega)), row_even]; simp only [IH.cells, gB]
  refine drawn [(20, [37])] (by kernel_rfl) (by kernel_rfl) rfl ?_
  simp -dsimp (maxSteps := 1000000) (disch := first | omega | (simp only [new_n, put_n]; omega) | decide +kernel | (repeat first | rw [new_n] | rw [put_n])) only [wpS, wpT, Nat.reduceEqDiff, reduceIte, Nat.reduceLT, Nat.reduceLeDiff, Nat.reduceAdd, Nat.reduceMul, Nat.reduceBEq, Int.reduceToNat, zc32, st32, ld32, bs44, zc59, st59, bs42, bs38, ld59]
  have m1 : Ext h20 (h20.new (.cells [.int .u64 3, .int .u64 6, .int .u64 12] 1 none)) := (Ext.refl h20).new _
  have s1 : SlOf (h20.new (.cells [.int .u64 3, .int .u64 6, .int .u64 12] 1 none)) 1 (.slice (some ⟨2 * h20.n, 0, none⟩) 3 7) 3 ([3, 6, 12].map fun n : Nat => K64 n) := sl_block (k := h20.n) (f := none) (get_new_same _ _ rfl) (by simp only [new_n]; omega) (by decide) rfl (by decide) (by decide)
  refine call (equal64_ok (a := [3, 6, 12]) (b := [3, 6, 12]) (hx4f.ext m1).now s1.now (by decide) (fun x _ y _ o1 o2 => neq64 x y _ _ o1 o2)) ?_
  rintro _ h21 ⟨hh21, rfl⟩
  rw [hh21, decide_eq_true rfl]
  simp -dsimp (maxSteps := 1000000) (disch := first | omega | (simp only [new_n, put_n]; omega) | decide +kernel | (repeat first | rw [new_n] | rw [put_n])) only [wpS, wpT, Nat.reduceEqDiff, reduceIte, Nat.reduceLT, Nat.reduceLeDiff, Nat.reduceAdd, Nat.reduceMul, Nat.reduceBEq, Int.reduceToNat, zc32, st32, ld32, bs44, zc59, st59, bs42, bs38, ld59]
  have m2 : Ext h20 ((h20.new (.cells [.int .u64 3, .int .u64 6, .int .u64 12] 1 none)).new (.cells [.int .i64 0, .int .i64 0, .int .i64 0, .int .i64 1] 1 none)) := m1.new _
  have s2 : SlOf ((h20.new (.cells [.int .u64 3, .int .u64 6, .int .u64 12] 1 none)).new (.cells [.int .i64 0, .int .i64 0, .int .i64 0, .int .i64 1] 1 none)) 1 (.slice (some ⟨2 * (h20.n + 1), 0, none⟩) 4 9) 4 ([0, 0, 0, 1].map KI) := sl_block (k := h20.n + 1) (f := none) (get_new_same _ _ (by simp only [new_n])) (by simp only [new_n]; omega) (by decide) rfl (by decide) (by decide)
  refine call (equalP_ok (a := [0, 0, 0, 1]) (b := [0, 0, 0, 1]) (hx7f.ext m2).now s2.now (by decide) (fun x _ y _ o1 o2 => neqI x y _ _ o1 o2)) ?_
  rintro _ h22 ⟨hh22, rfl⟩
  rw [hh22, decide_eq_true rfl]
  have ht20 : t < h20.n := Nat.lt_of_lt_of_le nB eE.n
  simp -dsimp (maxSteps := 1000000) (disch := first | omega | (simp only [new_n, put_n]; omega) | decide +kernel | (repeat first | rw [new_n] | rw [put_n])) only [wpS, wpT, Nat.reduceEqDiff, reduceIte, Nat.reduceLT, Nat.reduceLeDiff, Nat.reduceAdd, Nat.reduceMul, Nat.reduceBEq, Int.reduceToNat, zc32, st32, ld32, bs44, zc59, st59, bs42, bs38, ld59, gF, wdC_len, wd_take]
  refine call (refOf_ok 4 (by decide)) ?_
  rintro _ h23 ⟨hE23, rfl⟩
  have hq4 : ∀ ox oy, binop Proofs.Tryd.prog .eql 59 ox oy (.agg (wdC (wideN 4)).toArray) (wideV 4) = some (.bool true) := fun ox oy => by
    have := wd_eql (wideN_small (show In64 4 by decide)) (wideN_small (show In64 4 by decide)) ox oy
    rw [decide_eq_true rfl] at this
    exact this
  have gG : h23.row (2 * t) = some (wdC (wideN 4)) := by rw [(m2.trans hE23).row (.inr (by omega))]; exact gF
  simp -dsimp (maxSteps := 1000000) (disch := first | omega | (simp only [new_n, put_n]; omega) | decide +kernel | (repeat first | rw [new_n] | rw [put_n])) only [wpS, wpT, Nat.reduceEqDiff, reduceIte, Nat.reduceLT, Nat.reduceLeDiff, Nat.reduceAdd, Nat.reduceMul, Nat.reduceBEq, Int.reduceToNat, zc32, st32, ld32, bs44, zc59, st59, bs42, bs38, ld59, hq4]
  refine ⟨wpSteady_one rfl rfl rfl rfl (steady_load (av := ptr (2 * t) 0) (v := wideV 4) rfl ?_ ?_), ?_⟩
  · simp -dsimp (maxSteps := 1000000) (disch := first | omega | (simp only [new_n, put_n]; omega) | decide +kernel | (repeat first | rw [new_n] | rw [put_n])) only [wpS, wpT, Nat.reduceEqDiff, reduceIte, Nat.reduceLT, Nat.reduceLeDiff, Nat.reduceAdd, Nat.reduceMul, Nat.reduceBEq, Int.reduceToNat, zc32, st32, ld32, bs44, zc59, st59, bs42, bs38, ld59, gF, wdC_len, wd_take]
    rfl
  · simp -dsimp (maxSteps := 1000000) (disch := first | omega | (simp only [new_n, put_n]; omega) | decide +kernel | (repeat first | rw [new_n] | rw [put_n])) only [wpS, wpT, Nat.reduceEqDiff, reduceIte, Nat.reduceLT, Nat.reduceLeDiff, Nat.reduceAdd, Nat.reduceMul, Nat.reduceBEq, Int.reduceToNat, zc32, st32, ld32, bs44, zc59, st59, bs42, bs38, ld59, gG, wdC_len, wd_take]
    rfl
  simp -dsimp (maxSteps := 1000000) (disch := first | omega | (simp only [new_n, put_n]; omega) | decide +kernel | (repeat first | rw [new_n] | rw [put_n])) only [wpS, wpT, Nat.reduceEqDiff, reduceIte, Nat.reduceLT, Nat.reduceLeDiff, Nat.reduceAdd, Nat.reduceMul, Nat.reduceBEq, Int.reduceToNat, zc32, st32, ld32, bs44, zc59, st59, bs42, bs38, ld59]
  exact w20A.e.trans (m2.trans hE23)
end Go.Id

/-! The statement EnumerateSets, on the ideal machine. -/
namespace Go.Id
open Go

theorem DraftAt.ext {h h' : IH} {x : Value} (d : DraftAt h x) (e : Ext h h') : DraftAt h' x := by
  obtain ⟨wd, hi, less, sl, ds, mn, wn, mv, wv, ms, wcs, rfl, hm, h8m, hw, h8w, h1⟩ := d.ex
  exact ⟨wd, hi, less, sl, ds, mn, wn, mv, wv, ms, wcs, rfl, hm.ext e, h8m, hw.ext e, h8w, h1⟩
/-- The cells of a draft. -/
theorem DraftAt.cells {h : IH} {x : Value} (d : DraftAt h x) : ∃ cs : List Value, x = .agg cs.toArray ∧ cs.length = 7 ∧ cs.all cellOK = true := by
  obtain ⟨wd, hi, less, sl, ds, mn, wn, mv, wv, ms, wcs, rfl, hm, h8m, hw, h8w, h1⟩ := d.ex
  refine ⟨[K8 wd, K8 hi, K16 less, mv, wv, K8 sl, K8 ds], rfl, rfl, ?_⟩
  have c1 := hm.cok
  have c2 := hw.cok
  simp only [List.all_cons, c1, c2, List.all_nil, Bool.and_true, Bool.true_and]
  rfl
set_option maxHeartbeats 8000000 in
open Classical in
theorem sets_ideal {h : IH} (hB : BaseT h) {x : Value} (hx : DraftAt h x) : WV Proofs.Tryd.prog (.func (.func 7) #[] #[]) [x] h fun r h' => r = .bool true := by
  obtain ⟨cs, rfl, hcl, hca⟩ := hx.cells
  have tk : List.take 7 (List.drop 0 cs) = cs := by rw [List.drop_zero, List.take_of_length_le (by omega)]
  refine enter (nt := 85) (rs := [.tmp 2]) Proofs.Tryd.func7 rfl rfl rfl (by simp) ?_
  simp -dsimp (maxSteps := 1000000) (disch := first | omega | (simp only [new_n, put_n]; omega) | decide +kernel | (repeat first | rw [new_n] | rw [put_n])) only [wpS, wpT, Nat.reduceEqDiff, reduceIte, Nat.reduceLT, Nat.reduceLeDiff, Nat.reduceAdd, Nat.reduceMul, Nat.reduceBEq, Int.reduceToNat, ld28, zc32, zc35, st32, st35, ld32, ld35, fa32_0, ld3, fa35_0, ld33, es33, fa35_1, fa35_2, bn4, ln33]
  have e0 : Ext h (h.new (.cells cs 0 none)) := (Ext.refl h).new _
  refine call (works_ok (hB.ext e0)) ?_
  rintro _ h1 ⟨hE1, rfl⟩
  have r0 : h1.row (2 * h.n) = some cs := by rw [hE1.row (.inr (by simp only [new_n]; omega)), row_even]; simp only [IH.cells]; simp (disch := first | omega | (simp only [new_n, put_n]; omega) | (repeat first | rw [new_n] | rw [put_n])) only [get_new_same, get_new_old, get_put_same, get_put_old]
  simp -dsimp (maxSteps := 1000000) (disch := first | omega | (simp only [new_n, put_n]; omega) | decide +kernel | (repeat first | rw [new_n] | rw [put_n])) only [wpS, wpT, Nat.reduceEqDiff, reduceIte, Nat.reduceLT, Nat.reduceLeDiff, Nat.reduceAdd, Nat.reduceMul, Nat.reduceBEq, Int.reduceToNat, ld28, zc32, zc35, st32, st35, ld32, ld35, fa32_0, ld3, fa35_0, ld33, es33, fa35_1, fa35_2, bn4, ln33, r0, hcl, tk]
  have e1 := e0.trans hE1
  refine call (problem_ok (hx.ext e1)) ?_
  rintro _ h2 ⟨hE2, n, k, E, v, w, ws, lo, hi, rfl, a, hk4, hn9, hws⟩
  obtain ⟨hG, hn0, hn12, hV, hlen, hwl, hwb, hd1, hd2, hlo, hlohi⟩ := enErr_ok a.ok
  have hp12 : 2 ^ n ≤ 2 ^ 12 := Nat.pow_le_pow_right (by omega) hn12
  simp -dsimp (maxSteps := 1000000) (disch := first | omega | (simp only [new_n, put_n]; omega) | decide +kernel | (repeat first | rw [new_n] | rw [put_n])) only [wpS, wpT, Nat.reduceEqDiff, reduceIte, Nat.reduceLT, Nat.reduceLeDiff, Nat.reduceAdd, Nat.reduceMul, Nat.reduceBEq, Int.reduceToNat, ld28, zc32, zc35, st32, st35, ld32, ld35, fa32_0, ld3, fa35_0, ld33, es33, fa35_1, fa35_2, bn4, ln33, a.sE.cells, a.sE.cok, a.sW.cells, a.sW.cok, List.drop_zero]
  have eT : Ext h2 ((((h2.new (.cells [.int .i64 0, .slice none 0 0] 0 none)).new (.cells [.slice none 0 0, .int .i64 0, .int .i64 0, .int .i64 0] 0 none)).put h2.n (.cells [KI n, v] 0 none)).put (h2.n + 1) (.cells [w, KI lo, KI hi, KI k] 0 none)) := ((((Ext.refl h2).new _).new _).put (Nat.le_refl _) _).put (by omega) _
  have rg : ((((h2.new (.cells [.int .i64 0, .slice none 0 0] 0 none)).new (.cells [.slice none 0 0, .int .i64 0, .int .i64 0, .int .i64 0] 0 none)).put h2.n (.cells [KI n, v] 0 none)).put (h2.n + 1) (.cells [w, KI lo, KI hi, KI k] 0 none)).row (2 * h2.n) = some [KI n, v] := by rw [row_even]; simp only [IH.cells]; simp (disch := first | omega | (simp only [new_n, put_n]; omega) | (repeat first | rw [new_n] | rw [put_n])) only [get_new_same, get_new_old, get_put_same, get_put_old]
  have rb : ((((h2.new (.cells [.int .i64 0, .slice none 0 0] 0 none)).new (.cells [.slice none 0 0, .int .i64 0, .int .i64 0, .int .i64 0] 0 none)).put h2.n (.cells [KI n, v] 0 none)).put (h2.n + 1) (.cells [w, KI lo, KI hi, KI k] 0 none)).row (2 * (h2.n + 1)) = some [w, KI lo, KI hi, KI k] := by rw [row_even]; simp only [IH.cells]; simp (disch := first | omega | (simp only [new_n, put_n]; omega) | (repeat first | rw [new_n] | rw [put_n])) only [get_new_same, get_new_old, get_put_same, get_put_old]
  have nT : h2.n + 1 < ((((h2.new (.cells [.int .i64 0, .slice none 0 0] 0 none)).new (.cells [.slice none 0 0, .int .i64 0, .int .i64 0, .int .i64 0] 0 none)).put h2.n (.cells [KI n, v] 0 none)).put (h2.n + 1) (.cells [w, KI lo, KI hi, KI k] 0 none)).n := by simp only [new_n, put_n]; omega
  generalize ((((h2.new (.cells [.int .i64 0, .slice none 0 0] 0 none)).new (.cells [.slice none 0 0, .int .i64 0, .int .i64 0, .int .i64 0] 0 none)).put h2.n (.cells [KI n, v] 0 none)).put (h2.n + 1) (.cells [w, KI lo, KI hi, KI k] 0 none)) = T at *
  have aT := a.keep eT.keep
  have bT := (hB.ext e1).ext (hE2.trans eT)
  refine call (districts_ok bT aT.sE aT.sW aT.hhi aT.ok) ?_
  rintro _ h3 ⟨hE3, x, rfl, hx⟩
  obtain ⟨F, hF⟩ : ∃ F, F = fitsB E ws lo hi := ⟨_, rfl⟩
  rw [← hF] at hx
  simp -dsimp (maxSteps := 1000000) (disch := first | omega | (simp only [new_n, put_n]; omega) | decide +kernel | (repeat first | rw [new_n] | rw [put_n])) only [wpS, wpT, Nat.reduceEqDiff, reduceIte, Nat.reduceLT, Nat.reduceLeDiff, Nat.reduceAdd, Nat.reduceMul, Nat.reduceBEq, Int.reduceToNat, ld28, zc32, zc35, st32, st35, ld32, ld35, fa32_0, ld3, fa35_0, ld33, es33, fa35_1, fa35_2, bn4, ln33, List.drop_zero]
  have tk2 : List.take 2 (List.drop 0 [KI n, v]) = [KI n, v] := rfl
  have p0 : 0 < 2 ^ n := Nat.pow_pos (by omega)
  have q0 : 0 ≤ ((2 ^ n : Nat) : Int) := Int.natCast_nonneg _
  refine loop (fun m fr hh => ∃ set : Nat, set + m = 2 ^ n ∧ 1 ≤ set ∧ Ext h3 hh ∧ fget fr 3 = some (ptr (2 * h2.n) 0) ∧ fget fr 4 = some (ptr (2 * (h2.n + 1)) 0) ∧ fget fr 5 = some x ∧ fget fr 7 = some (K64 set)) (2 ^ n - 1)
    ⟨1, by omega, by omega, Ext.refl _, by simp, by simp, by simp, by simp⟩ ?_
  rintro m fr hh ⟨set, hsm, hs1, hE4, f3, f4, f5, f7⟩
  have hT3 := hE3.n
  have rgh : hh.row (2 * h2.n) = some [KI n, v] := by rw [(hE3.trans hE4).row (.inr (by omega))]; exact rg
  have rbh : hh.row (2 * (h2.n + 1)) = some [w, KI lo, KI hi, KI k] := by rw [(hE3.trans hE4).row (.inr (by omega))]; exact rb
  have aH := aT.keep (hE3.trans hE4).keep
  have bH := bT.ext (hE3.trans hE4)
  simp -dsimp (maxSteps := 1000000) (disch := first | omega | (simp only [new_n, put_n]; omega) | decide +kernel | (repeat first | rw [new_n] | rw [put_n])) only [wpS, wpT, Nat.reduceEqDiff, reduceIte, Nat.reduceLT, Nat.reduceLeDiff, Nat.reduceAdd, Nat.reduceMul, Nat.reduceBEq, Int.reduceToNat, ld28, zc32, zc35, st32, st35, ld32, ld35, fa32_0, ld3, fa35_0, ld33, es33, fa35_1, fa35_2, bn4, ln33, f3, f4, f5, f7, rgh]
  refine bq_intro ?_ ?_ <;> intro hc <;> simp only [bne_iff_ne, beq_iff_eq, decide_eq_true_eq, decide_eq_false_iff_not, bne_eq_false_iff_eq, beq_eq_false_iff_ne, ne_eq, Bool.not_eq_true', Bool.not_eq_false', Bool.not_eq_true, Bool.not_eq_false, Decidable.not_not, Bool.not_not] at hc
  · have hset : set < 2 ^ n := by omega
    simp -dsimp (maxSteps := 1000000) (disch := first | omega | (simp only [new_n, put_n]; omega) | decide +kernel | (repeat first | rw [new_n] | rw [put_n])) only [wpS, wpT, Nat.reduceEqDiff, reduceIte, Nat.reduceLT, Nat.reduceLeDiff, Nat.reduceAdd, Nat.reduceMul, Nat.reduceBEq, Int.reduceToNat, ld28, zc32, zc35, st32, st35, ld32, ld35, fa32_0, ld3, fa35_0, ld33, es33, fa35_1, fa35_2, bn4, ln33, f3, f4, f5, f7, rgh, rbh, aH.sW.len sl33]
    refine loop (fun d fr h4 => h4 = hh ∧ ∃ i : Nat, i + d = ws.length ∧ fget fr 3 = some (ptr (2 * h2.n) 0) ∧ fget fr 4 = some (ptr (2 * (h2.n + 1)) 0) ∧ fget fr 5 = some x ∧ fget fr 7 = some (K64 set) ∧ fget fr 8 = some (KI (weightTo ws set i)) ∧ fget fr 38 = some w ∧ fget fr 39 = some (KI ws.length) ∧ fget fr 40 = some (KI i)) ws.length
      ⟨rfl, 0, by omega, by simp [f3], by simp [f4], by simp [f5], by simp [f7], by simp [weightTo], by simp, by simp, by simp⟩ ?_
    rintro d fr4 h4 ⟨hh4, i, hid, g3, g4, g5, g7, g8, g38, g39, g40⟩
    have hh4 := hh4.symm
    subst hh4
    simp -dsimp (maxSteps := 1000000) (disch := first | omega | (simp only [new_n, put_n]; omega) | decide +kernel | (repeat first | rw [new_n] | rw [put_n])) only [wpS, wpT, Nat.reduceEqDiff, reduceIte, Nat.reduceLT, Nat.reduceLeDiff, Nat.reduceAdd, Nat.reduceMul, Nat.reduceBEq, Int.reduceToNat, ld28, zc32, zc35, st32, st35, ld32, ld35, fa32_0, ld3, fa35_0, ld33, es33, fa35_1, fa35_2, bn4, ln33, g38, g39, g40]
    refine bq_intro ?_ ?_ <;> intro hc2 <;> simp only [bne_iff_ne, beq_iff_eq, decide_eq_true_eq, decide_eq_false_iff_not, bne_eq_false_iff_eq, beq_eq_false_iff_ne, ne_eq, Bool.not_eq_true', Bool.not_eq_false', Bool.not_eq_true, Bool.not_eq_false, Decidable.not_not, Bool.not_not] at hc2
    · have hi : i < ws.length := by omega
      obtain ⟨y, hy⟩ : ∃ y, ws[i]? = some y := ⟨ws[i], List.getElem?_eq_getElem hi⟩
      have hyb := hwb y (List.mem_of_getElem? hy)
      have ix := aH.sW.idx (P := Proofs.Tryd.prog) (t := 33) es33 (k := .i64) (j := i) hi
      have ld := aH.sW.ld (Keep.refl _) (c := i) (by simpa using hi) (P := Proofs.Tryd.prog) (t := 3) ag3
      rw [Nat.mul_one] at ix
      rw [List.getElem?_map, hy] at ld
      simp only [Option.map_some] at ld
      have hbd := weightTo_bd ws set hwb i
      have hws1 : weightTo ws set (i + 1) = weightTo ws set i + if set.testBit i then y else 0 := by
        rw [weightTo]
        have : ws.getD i 0 = y := by simp [List.getD, hy]
        rw [this]
      have hnl := nshr_le set i
      simp -dsimp (maxSteps := 1000000) (disch := first | omega | (simp only [new_n, put_n]; omega) | decide +kernel | (repeat first | rw [new_n] | rw [put_n])) only [wpS, wpT, Nat.reduceEqDiff, reduceIte, Nat.reduceLT, Nat.reduceLeDiff, Nat.reduceAdd, Nat.reduceMul, Nat.reduceBEq, Int.reduceToNat, ld28, zc32, zc35, st32, st35, ld32, ld35, fa32_0, ld3, fa35_0, ld33, es33, fa35_1, fa35_2, bn4, ln33, g3, g4, g5, g7, g8, g38, g39, g40, ix, ld, bit_eq_one]
      refine bq_intro ?_ ?_ <;> intro hb
      · rw [if_pos hb] at hws1
        simp -dsimp (maxSteps := 1000000) (disch := first | omega | (simp only [new_n, put_n]; omega) | decide +kernel | (repeat first | rw [new_n] | rw [put_n])) only [wpS, wpT, Nat.reduceEqDiff, reduceIte, Nat.reduceLT, Nat.reduceLeDiff, Nat.reduceAdd, Nat.reduceMul, Nat.reduceBEq, Int.reduceToNat, ld28, zc32, zc35, st32, st35, ld32, ld35, fa32_0, ld3, fa35_0, ld33, es33, fa35_1, fa35_2, bn4, ln33, g8, g40]
        refine ⟨d - 1, by omega, rfl, i + 1, by omega, by simp [g3], by simp [g4], by simp [g5], by simp [g7], by simp [hws1], by simp [g38], by simp [g39], by simp⟩
      · rw [if_neg (by simp [hb]), Int.add_zero] at hws1
        simp -dsimp (maxSteps := 1000000) (disch := first | omega | (simp only [new_n, put_n]; omega) | decide +kernel | (repeat first | rw [new_n] | rw [put_n])) only [wpS, wpT, Nat.reduceEqDiff, reduceIte, Nat.reduceLT, Nat.reduceLeDiff, Nat.reduceAdd, Nat.reduceMul, Nat.reduceBEq, Int.reduceToNat, ld28, zc32, zc35, st32, st35, ld32, ld35, fa32_0, ld3, fa35_0, ld33, es33, fa35_1, fa35_2, bn4, ln33, g8, g40]
        refine ⟨d - 1, by omega, rfl, i + 1, by omega, by simp [g3], by simp [g4], by simp [g5], by simp [g7], by simp [g8, hws1], by simp [g38], by simp [g39], by simp⟩
    · obtain rfl : i = ws.length := by omega
      simp -dsimp (maxSteps := 1000000) (disch := first | omega | (simp only [new_n, put_n]; omega) | decide +kernel | (repeat first | rw [new_n] | rw [put_n])) only [wpS, wpT, Nat.reduceEqDiff, reduceIte, Nat.reduceLT, Nat.reduceLeDiff, Nat.reduceAdd, Nat.reduceMul, Nat.reduceBEq, Int.reduceToNat, ld28, zc32, zc35, st32, st35, ld32, ld35, fa32_0, ld3, fa35_0, ld33, es33, fa35_1, fa35_2, bn4, ln33, g3, g4, g5, g7, g8, rgh, tk2]
      refine call (connected_ok bH (by have := a.ok; exact hG) aH.sE set hset) ?_
      rintro _ h5 ⟨hE5, rfl⟩
      have rb5 : h5.row (2 * (h2.n + 1)) = some [w, KI lo, KI hi, KI k] := by rw [hE5.row (.inr (by have := hE4.n; omega))]; exact rbh
      simp -dsimp (maxSteps := 1000000) (disch := first | omega | (simp only [new_n, put_n]; omega) | decide +kernel | (repeat first | rw [new_n] | rw [put_n])) only [wpS, wpT, Nat.reduceEqDiff, reduceIte, Nat.reduceLT, Nat.reduceLeDiff, Nat.reduceAdd, Nat.reduceMul, Nat.reduceBEq, Int.reduceToNat, ld28, zc32, zc35, st32, st35, ld32, ld35, fa32_0, ld3, fa35_0, ld33, es33, fa35_1, fa35_2, bn4, ln33, g3, g4, g5, g7, g8]
      refine call (bsearch_ok ((hx.ext hE4).ext hE5) (rises_dist _ _) (by have := distL_len F (2 ^ n); omega) set) ?_
      rintro _ h6 ⟨hh6, ii, rfl⟩
      rw [hh6]
      have hmem : set ∈ distL F (2 ^ n) ↔ lo ≤ weightTo ws set ws.length ∧ weightTo ws set ws.length ≤ hi ∧ Conn (adjOf E) set := by
        rw [mem_dist, hF]
        unfold fitsB
        rw [decide_eq_true_eq]
        exact ⟨fun h => h.2.2, fun h => ⟨hset, by omega, h⟩⟩
      have hbd := weightTo_bd ws set hwb ws.length
      have fin : ∀ fr' : Fr, fget fr' 3 = some (ptr (2 * h2.n) 0) → fget fr' 4 = some (ptr (2 * (h2.n + 1)) 0) → fget fr' 5 = some x → fget fr' 7 = some (K64 (set + 1)) → ∃ m' : Nat, m' < m ∧ ∃ set' : Nat, set' + m' = 2 ^ n ∧ 1 ≤ set' ∧ Ext h3 h5 ∧ fget fr' 3 = some (ptr (2 * h2.n) 0) ∧ fget fr' 4 = some (ptr (2 * (h2.n + 1)) 0) ∧ fget fr' 5 = some x ∧ fget fr' 7 = some (K64 set') :=
        fun fr' x1 x2 x3 x4 => ⟨m - 1, by omega, set + 1, by omega, by omega, hE4.trans hE5, x1, x2, x3, x4⟩
      by_cases cC : Conn (adjOf E) set
      · by_cases c1 : lo ≤ weightTo ws set ws.length
        · by_cases c2 : weightTo ws set ws.length ≤ hi
          · have hd : decide (set ∈ distL F (2 ^ n)) = true := decide_eq_true (hmem.2 ⟨c1, c2, cC⟩)
            simp -dsimp (maxSteps := 1000000) (disch := first | omega | (simp only [new_n, put_n]; omega) | decide +kernel | (repeat first | rw [new_n] | rw [put_n])) only [wpS, wpT, Nat.reduceEqDiff, reduceIte, Nat.reduceLT, Nat.reduceLeDiff, Nat.reduceAdd, Nat.reduceMul, Nat.reduceBEq, Int.reduceToNat, ld28, zc32, zc35, st32, st35, ld32, ld35, fa32_0, ld3, fa35_0, ld33, es33, fa35_1, fa35_2, bn4, ln33, g3, g4, g5, g7, g8, rb5, decide_eq_true cC, hd, beq_self_eq_true, Bool.not_true]
            exact fin _ (by simp [g3]) (by simp [g4]) (by simp [g5]) (by simp)
          · have hd : decide (set ∈ distL F (2 ^ n)) = false := decide_eq_false fun h => c2 (hmem.1 h).2.1
            simp -dsimp (maxSteps := 1000000) (disch := first | omega | (simp only [new_n, put_n]; omega) | decide +kernel | (repeat first | rw [new_n] | rw [put_n])) only [wpS, wpT, Nat.reduceEqDiff, reduceIte, Nat.reduceLT, Nat.reduceLeDiff, Nat.reduceAdd, Nat.reduceMul, Nat.reduceBEq, Int.reduceToNat, ld28, zc32, zc35, st32, st35, ld32, ld35, fa32_0, ld3, fa35_0, ld33, es33, fa35_1, fa35_2, bn4, ln33, g3, g4, g5, g7, g8, rb5, decide_eq_true cC, hd, beq_self_eq_true, Bool.not_true]
            exact fin _ (by simp [g3]) (by simp [g4]) (by simp [g5]) (by simp)
        · have hd : decide (set ∈ distL F (2 ^ n)) = false := decide_eq_false fun h => c1 (hmem.1 h).1
          simp -dsimp (maxSteps := 1000000) (disch := first | omega | (simp only [new_n, put_n]; omega) | decide +kernel | (repeat first | rw [new_n] | rw [put_n])) only [wpS, wpT, Nat.reduceEqDiff, reduceIte, Nat.reduceLT, Nat.reduceLeDiff, Nat.reduceAdd, Nat.reduceMul, Nat.reduceBEq, Int.reduceToNat, ld28, zc32, zc35, st32, st35, ld32, ld35, fa32_0, ld3, fa35_0, ld33, es33, fa35_1, fa35_2, bn4, ln33, g3, g4, g5, g7, g8, rb5, decide_eq_true cC, hd, beq_self_eq_true, Bool.not_true]
          exact fin _ (by simp [g3]) (by simp [g4]) (by simp [g5]) (by simp)
      · have hd : decide (set ∈ distL F (2 ^ n)) = false := decide_eq_false fun h => cC (hmem.1 h).2.2
        simp -dsimp (maxSteps := 1000000) (disch := first | omega | (simp only [new_n, put_n]; omega) | decide +kernel | (repeat first | rw [new_n] | rw [put_n])) only [wpS, wpT, Nat.reduceEqDiff, reduceIte, Nat.reduceLT, Nat.reduceLeDiff, Nat.reduceAdd, Nat.reduceMul, Nat.reduceBEq, Int.reduceToNat, ld28, zc32, zc35, st32, st35, ld32, ld35, fa32_0, ld3, fa35_0, ld33, es33, fa35_1, fa35_2, bn4, ln33, g3, g4, g5, g7, g8, rb5, decide_eq_false cC, hd, beq_self_eq_true, Bool.not_true]
        exact fin _ (by simp [g3]) (by simp [g4]) (by simp [g5]) (by simp)
  · simp -dsimp (maxSteps := 1000000) (disch := first | omega | (simp only [new_n, put_n]; omega) | decide +kernel | (repeat first | rw [new_n] | rw [put_n])) only [wpS, wpT, Nat.reduceEqDiff, reduceIte, Nat.reduceLT, Nat.reduceLeDiff, Nat.reduceAdd, Nat.reduceMul, Nat.reduceBEq, Int.reduceToNat, ld28, zc32, zc35, st32, st35, ld32, ld35, fa32_0, ld3, fa35_0, ld33, es33, fa35_1, fa35_2, bn4, ln33]
end Go.Id
