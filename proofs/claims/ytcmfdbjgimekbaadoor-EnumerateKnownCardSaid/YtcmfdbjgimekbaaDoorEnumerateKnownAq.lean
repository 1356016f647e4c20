/-
  Contracts: lists; the chapter's examples. Counting plans: where a set is a district by its size alone. Counting plans: complete graphs, and graphs without edges. Contracts: slices.Repeat: what it returns lies in a block of its own.
-/
import Derived.Test.YtcmfdbjgimekbaaDoorEnumerateKnownAp
import Derived.Test.YtcmfdbjgimekbaaDoorEnumerateKnownAj
set_option linter.unusedVariables false
set_option linter.unusedSimpArgs false
set_option linter.defProp false
set_option linter.deprecated false
/-! Contracts: lists; the chapter's examples. -/
namespace Go.Id
open Go

theorem planAt_len (F : Nat → Bool) (n k : Nat) : ∀ (m node : Nat) (cs : List Nat) (i : Nat), (planAt F n k m node cs i).length ≤ m
  | 0, _, _, _ => Nat.le_refl _
  | m + 1, node, cs, i => by
    unfold planAt
    split
    · have := planAt_len F n k m
      simp only [List.length_cons]
      exact Nat.succ_le_succ (this _ _ _)
    · simp
theorem lists_ok {h : IH} (hB : BaseT h) {n : Nat} {E : List (Nat × Nat)} {v w x : Value} {ws : List Int} {lo hi : Int} {k : Nat} (a : ArgsAt h n E v w ws lo hi k) {qs : List (List Nat)} (hq : PlansAt h x qs) (lq : qs.length ≤ 1000000) :
    WV Proofs.Tryd.prog (.func (.func 18) #[] #[]) [.agg #[KI n, v], .agg #[w, KI lo, KI hi, KI k], x] h fun r h' => Ext h h' ∧ r = .bool (decide (totalP n E ws lo hi k ≤ 400 ∧ plansP n E ws lo hi k = qs)) := by
  obtain ⟨hG, hn0, hn12, hV, hlen, hwl, hws, hd1, hd2, hlo, hlohi⟩ := enErr_ok a.ok
  refine enter (nt := 29) (rs := [.tmp 6]) Proofs.Tryd.func18 rfl rfl rfl (by simp) ?_
  simp -dsimp (maxSteps := 1000000) (disch := first | omega | (simp only [new_n, put_n]; omega) | decide +kernel | (repeat first | rw [new_n] | rw [put_n])) only [wpS, wpT, Nat.reduceEqDiff, reduceIte, Nat.reduceLT, Nat.reduceLeDiff, Nat.reduceAdd, Nat.reduceMul, Nat.reduceBEq, Int.reduceToNat, ld32, ld35, ln42]
  have e0 : ∀ o1 o2, Ext h ((h.new o1).new o2) := fun o1 o2 => ((Ext.refl h).new _).new _
  have a0 := a.keep (e0 (.cells [KI n, v] 0 none) (.cells [w, KI lo, KI hi, KI k] 0 none)).keep
  refine call (all_ok (hB.ext (e0 _ _)) a0) ?_
  rintro r h1 ⟨hE1, hr⟩
  have hE2 := (e0 _ _).trans hE1
  by_cases hT : totalP n E ws lo hi k ≤ 400
  · rw [if_pos hT] at hr
    obtain ⟨y, rfl, hy⟩ := hr
    have hlp : (plansP n E ws lo hi k).length = totalP n E ws lo hi k := by simp [plansP]
    simp -dsimp (maxSteps := 1000000) (disch := first | omega | (simp only [new_n, put_n]; omega) | decide +kernel | (repeat first | rw [new_n] | rw [put_n])) only [wpS, wpT, Nat.reduceEqDiff, reduceIte, Nat.reduceLT, Nat.reduceLeDiff, Nat.reduceAdd, Nat.reduceMul, Nat.reduceBEq, Int.reduceToNat, ld32, ld35, ln42]
    refine call (samePlans_ok hy (hq.keep hE2.keep) (by omega) fun p hp => ?_) ?_
    · obtain ⟨i, _, rfl⟩ := List.mem_map.1 hp
      have := planAt_len (fitsB E ws lo hi) n k n 0 [] i
      omega
    rintro _ h1' ⟨hh1, rfl⟩
    rw [hh1]
    have hr1 : h1.row (2 * h.n) = some [KI n, v] := by
      rw [hE1.row (.inr (by simp only [new_n]; omega)), row_even]; simp only [IH.cells]; simp (disch := first | omega | (simp only [new_n, put_n]; omega) | (repeat first | rw [new_n] | rw [put_n])) only [get_new_same, get_new_old, get_put_same, get_put_old]
    have hr2 : h1.row (2 * (h.n + 1)) = some [w, KI lo, KI hi, KI k] := by
      rw [hE1.row (.inr (by simp only [new_n]; omega)), row_even]; simp only [IH.cells]; simp (disch := first | omega | (simp only [new_n, put_n]; omega) | (repeat first | rw [new_n] | rw [put_n])) only [get_new_same, get_new_old, get_put_same, get_put_old]
    obtain ⟨us, hsl, hu⟩ := hq.keep hE2.keep
    by_cases hpq : plansP n E ws lo hi k = qs
    · simp -dsimp (maxSteps := 1000000) (disch := first | omega | (simp only [new_n, put_n]; omega) | decide +kernel | (repeat first | rw [new_n] | rw [put_n])) only [wpS, wpT, Nat.reduceEqDiff, reduceIte, Nat.reduceLT, Nat.reduceLeDiff, Nat.reduceAdd, Nat.reduceMul, Nat.reduceBEq, Int.reduceToNat, ld32, ld35, ln42, hr1, hr2, hsl.len sl42, decide_eq_true hpq]
      refine call (counts_ok (hB.ext hE2) (a.keep hE2.keep) (qs.length : Int) ⟨by omega, by omega⟩) ?_
      rintro _ h3 ⟨hE3, rfl⟩
      simp -dsimp (maxSteps := 1000000) (disch := first | omega | (simp only [new_n, put_n]; omega) | decide +kernel | (repeat first | rw [new_n] | rw [put_n])) only [wpS, wpT, Nat.reduceEqDiff, reduceIte, Nat.reduceLT, Nat.reduceLeDiff, Nat.reduceAdd, Nat.reduceMul, Nat.reduceBEq, Int.reduceToNat, ld32, ld35, ln42]
      refine ⟨hE2.trans hE3, ?_⟩
      have h4 : (totalP n E ws lo hi k : Int) = (qs.length : Int) := by rw [← hpq, hlp]
      rw [decide_eq_true h4, decide_eq_true ⟨hT, hpq⟩]
    · simp -dsimp (maxSteps := 1000000) (disch := first | omega | (simp only [new_n, put_n]; omega) | decide +kernel | (repeat first | rw [new_n] | rw [put_n])) only [wpS, wpT, Nat.reduceEqDiff, reduceIte, Nat.reduceLT, Nat.reduceLeDiff, Nat.reduceAdd, Nat.reduceMul, Nat.reduceBEq, Int.reduceToNat, ld32, ld35, ln42, decide_eq_false hpq]
      refine ⟨hE2, ?_⟩
      rw [decide_eq_false fun hh => hpq hh.2]
  · rw [if_neg hT] at hr
    subst hr
    simp -dsimp (maxSteps := 1000000) (disch := first | omega | (simp only [new_n, put_n]; omega) | decide +kernel | (repeat first | rw [new_n] | rw [put_n])) only [wpS, wpT, Nat.reduceEqDiff, reduceIte, Nat.reduceLT, Nat.reduceLeDiff, Nat.reduceAdd, Nat.reduceMul, Nat.reduceBEq, Int.reduceToNat, ld32, ld35, ln42]
    refine ⟨hE2, ?_⟩
    rw [decide_eq_false fun hh => hT hh.1]
theorem neq64 (x y : Nat) (P : Program) (t : TypeId) (o1 o2 : Operand) : binop P .neq t o1 o2 (K64 x) (K64 y) = some (.bool (decide (x ≠ y))) := by
  rw [binop_neq]
  by_cases h : x = y
  · subst h; simp
  · have h1 : ((x : Int) != (y : Int)) = true := by simp; omega
    rw [h1, decide_eq_true h]
theorem neqI (x y : Int) (P : Program) (t : TypeId) (o1 o2 : Operand) : binop P .neq t o1 o2 (KI x) (KI y) = some (.bool (decide (x ≠ y))) := by
  rw [binop_neq]
  by_cases h : x = y
  · subst h; simp
  · have h1 : (x != y) = true := by simpa using h
    rw [h1, decide_eq_true h]
/-- The two graphs, as works has them. -/
structure Wk (h hh : IH) (p c : Nat) (vp vc : Value) : Prop where
  e : Ext h hh
  rp : hh.row (2 * p) = some [KI ((4 : Nat) : Int), vp]
  rc : hh.row (2 * c) = some [KI ((4 : Nat) : Int), vc]
  lp : p < hh.n
  lc : c < hh.n
  sp : SlOf hh 2 vp 3 (eCells (castE pathE))
  sc : SlOf hh 2 vc 4 (eCells (castE cycE))
  b : BaseT hh
theorem Wk.ext {h hh h3 : IH} {p c : Nat} {vp vc : Value} (w : Wk h hh p c vp vc) (e : Ext hh h3) : Wk h h3 p c vp vc :=
  ⟨w.e.trans e, by rw [e.row (.inr (by have := w.lp; omega))]; exact w.rp, by rw [e.row (.inr (by have := w.lc; omega))]; exact w.rc, Nat.lt_of_lt_of_le w.lp e.n, Nat.lt_of_lt_of_le w.lc e.n, w.sp.ext e, w.sc.ext e, w.b.ext e⟩
theorem Wk.path {h hh : IH} {p c : Nat} {vp vc w : Value} (a : Wk h hh p c vp vc) (hw : SlOf hh 1 w 4 (List.replicate 4 (KI 1))) {lo hi : Int} {k : Nat} (h3 : 1 ≤ k ∧ k ≤ 8 ∧ 0 ≤ lo ∧ lo ≤ hi) (h4 : hi ≤ 1000) : ArgsAt hh 4 pathE vp w one4 lo hi k :=
  ⟨a.sp, hw, ⟨by omega, by omega⟩, ok_path one4 lo hi k rfl one4_ok h3⟩
theorem Wk.cycle {h hh : IH} {p c : Nat} {vp vc w : Value} (a : Wk h hh p c vp vc) (hw : SlOf hh 1 w 4 (List.replicate 4 (KI 1))) {lo hi : Int} {k : Nat} (h3 : 1 ≤ k ∧ k ≤ 8 ∧ 0 ≤ lo ∧ lo ≤ hi) (h4 : hi ≤ 1000) : ArgsAt hh 4 cycE vc w one4 lo hi k :=
  ⟨a.sc, hw, ⟨by omega, by omega⟩, ok_cyc one4 lo hi k rfl one4_ok h3⟩
set_option maxHeartbeats 8000000 in
theorem works_ok {h : IH} (hB : BaseT h) : WV Proofs.Tryd.prog (.func (.func 11) #[] #[]) [] h fun r h' => Ext h h' ∧ r = .bool true := by
  refine enter (nt := 101) (rs := [.tmp 0]) Proofs.Tryd.func11 rfl rfl rfl (by simp) ?_
  simp -dsimp (maxSteps := 1000000) (disch := first | omega | (simp only [new_n, put_n]; omega) | decide +kernel | (repeat first | rw [new_n] | rw [put_n])) only [wpS, wpT, Nat.reduceEqDiff, reduceIte, Nat.reduceLT, Nat.reduceLeDiff, Nat.reduceAdd, Nat.reduceMul, Nat.reduceBEq, Int.reduceToNat, zc32, st32, ld32, bs44, zc59, st59, bs42, bs38, ld59]
  refine call path_ok ?_
  rintro _ h1 ⟨hE1, vp, rfl, hvp⟩
  simp -dsimp (maxSteps := 1000000) (disch := first | omega | (simp only [new_n, put_n]; omega) | decide +kernel | (repeat first | rw [new_n] | rw [put_n])) only [wpS, wpT, Nat.reduceEqDiff, reduceIte, Nat.reduceLT, Nat.reduceLeDiff, Nat.reduceAdd, Nat.reduceMul, Nat.reduceBEq, Int.reduceToNat, zc32, st32, ld32, bs44, zc59, st59, bs42, bs38, ld59]
  refine call cycle_ok ?_
  rintro _ h2 ⟨hE2, vc, rfl, hvc⟩
  simp -dsimp (maxSteps := 1000000) (disch := first | omega | (simp only [new_n, put_n]; omega) | decide +kernel | (repeat first | rw [new_n] | rw [put_n])) only [wpS, wpT, Nat.reduceEqDiff, reduceIte, Nat.reduceLT, Nat.reduceLeDiff, Nat.reduceAdd, Nat.reduceMul, Nat.reduceBEq, Int.reduceToNat, zc32, st32, ld32, bs44, zc59, st59, bs42, bs38, ld59, List.drop_zero, take2, hvp.cok, hvc.cok]
  have eA : Ext h2 ((((h2.new (.cells [.int .i64 0, .slice none 0 0] 0 none)).new (.cells [.int .i64 0, .slice none 0 0] 0 none)).put h2.n (.cells [KI ((4 : Nat) : Int), vp] 0 none)).put (h2.n + 1) (.cells [KI ((4 : Nat) : Int), vc] 0 none)) := ((((Ext.refl h2).new _).new _).put (Nat.le_refl _) _).put (by omega) _
  have wA : Wk h ((((h2.new (.cells [.int .i64 0, .slice none 0 0] 0 none)).new (.cells [.int .i64 0, .slice none 0 0] 0 none)).put h2.n (.cells [KI ((4 : Nat) : Int), vp] 0 none)).put (h2.n + 1) (.cells [KI ((4 : Nat) : Int), vc] 0 none)) h2.n (h2.n + 1) vp vc := by
    refine ⟨(hE1.trans hE2).trans eA, ?_, ?_, by simp only [new_n, put_n]; omega, by simp only [new_n, put_n]; omega, (hvp.ext hE2).ext eA, hvc.ext eA, ((hB.ext hE1).ext hE2).ext eA⟩
    · rw [row_even]; simp only [IH.cells]; simp (disch := first | omega | (simp only [new_n, put_n]; omega) | (repeat first | rw [new_n] | rw [put_n])) only [get_new_same, get_new_old, get_put_same, get_put_old]
    · rw [row_even]; simp only [IH.cells]; simp (disch := first | omega | (simp only [new_n, put_n]; omega) | (repeat first | rw [new_n] | rw [put_n])) only [get_new_same, get_new_old, get_put_same, get_put_old]
  generalize ((((h2.new (.cells [.int .i64 0, .slice none 0 0] 0 none)).new (.cells [.int .i64 0, .slice none 0 0] 0 none)).put h2.n (.cells [KI ((4 : Nat) : Int), vp] 0 none)).put (h2.n + 1) (.cells [KI ((4 : Nat) : Int), vc] 0 none)) = hA at *
  generalize h2.n = p at *
  generalize hpc : p + 1 = c at *
  refine drawn [(0, [2])] (by kernel_rfl) (by kernel_rfl) rfl ?_
  simp -dsimp (maxSteps := 1000000) (disch := first | omega | (simp only [new_n, put_n]; omega) | decide +kernel | (repeat first | rw [new_n] | rw [put_n])) only [wpS, wpT, Nat.reduceEqDiff, reduceIte, Nat.reduceLT, Nat.reduceLeDiff, Nat.reduceAdd, Nat.reduceMul, Nat.reduceBEq, Int.reduceToNat, zc32, st32, ld32, bs44, zc59, st59, bs42, bs38, ld59, wA.rp, List.drop_zero, take2]
  refine call (ones_ok 4 2 2 1 (by decide)) ?_
  rintro _ h3 ⟨hE3, w3, rfl, hw3⟩
  have w3A := wA.ext hE3
  simp -dsimp (maxSteps := 1000000) (disch := first | omega | (simp only [new_n, put_n]; omega) | decide +kernel | (repeat first | rw [new_n] | rw [put_n])) only [wpS, wpT, Nat.reduceEqDiff, reduceIte, Nat.reduceLT, Nat.reduceLeDiff, Nat.reduceAdd, Nat.reduceMul, Nat.reduceBEq, Int.reduceToNat, zc32, st32, ld32, bs44, zc59, st59, bs42, bs38, ld59]
  have a3 := w3A.path hw3 (lo := 2) (hi := 2) (k := 1) (by decide) (by decide)
  refine call (districts_ok w3A.b a3.sE a3.sW a3.hhi a3.ok) ?_
  rintro _ h4 ⟨hE4, x4, rfl, hx4⟩
  rw [dist_path22] at hx4
  have w4A := w3A.ext hE4
  simp -dsimp (maxSteps := 1000000) (disch := first | omega | (simp only [new_n, put_n]; omega) | decide +kernel | (repeat first | rw [new_n] | rw [put_n])) only [wpS, wpT, Nat.reduceEqDiff, reduceIte, Nat.reduceLT, Nat.reduceLeDiff, Nat.reduceAdd, Nat.reduceMul, Nat.reduceBEq, Int.reduceToNat, zc32, st32, ld32, bs44, zc59, st59, bs42, bs38, ld59]
  refine ⟨wpSteady_one rfl rfl rfl rfl (steady_load (av := ptr (2 * p) 0) (v := .agg #[KI ((4 : Nat) : Int), vp]) rfl ?_ ?_), ?_⟩
  · simp -dsimp (maxSteps := 1000000) (disch := first | omega | (simp only [new_n, put_n]; omega) | decide +kernel | (repeat first | rw [new_n] | rw [put_n])) only [wpS, wpT, Nat.reduceEqDiff, reduceIte, Nat.reduceLT, Nat.reduceLeDiff, Nat.reduceAdd, Nat.reduceMul, Nat.reduceBEq, Int.reduceToNat, zc32, st32, ld32, bs44, zc59, st59, bs42, bs38, ld59, wA.rp, List.drop_zero, take2]
  · simp -dsimp (maxSteps := 1000000) (disch := first | omega | (simp only [new_n, put_n]; omega) | decide +kernel | (repeat first | rw [new_n] | rw [put_n])) only [wpS, wpT, Nat.reduceEqDiff, reduceIte, Nat.reduceLT, Nat.reduceLeDiff, Nat.reduceAdd, Nat.reduceMul, Nat.reduceBEq, Int.reduceToNat, zc32, st32, ld32, bs44, zc59, st59, bs42, bs38, ld59, w3A.rp, List.drop_zero, take2]
  simp -dsimp (maxSteps := 1000000) (disch := first | omega | (simp only [new_n, put_n]; omega) | decide +kernel | (repeat first | rw [new_n] | rw [put_n])) only [wpS, wpT, Nat.reduceEqDiff, reduceIte, Nat.reduceLT, Nat.reduceLeDiff, Nat.reduceAdd, Nat.reduceMul, Nat.reduceBEq, Int.reduceToNat, zc32, st32, ld32, bs44, zc59, st59, bs42, bs38, ld59]
  -- Kth of the cycle
  refine drawn [(0, [2, 3])] (by kernel_rfl) (by kernel_rfl) rfl ?_
  simp -dsimp (maxSteps := 1000000) (disch := first | omega | (simp only [new_n, put_n]; omega) | decide +kernel | (repeat first | rw [new_n] | rw [put_n])) only [wpS, wpT, Nat.reduceEqDiff, reduceIte, Nat.reduceLT, Nat.reduceLeDiff, Nat.reduceAdd, Nat.reduceMul, Nat.reduceBEq, Int.reduceToNat, zc32, st32, ld32, bs44, zc59, st59, bs42, bs38, ld59, w4A.rc, List.drop_zero, take2]
  refine call (ones_ok 4 1 3 2 (by decide)) ?_
  rintro _ h5 ⟨hE5, w5, rfl, hw5⟩
  have w5A := w4A.ext hE5
  simp -dsimp (maxSteps := 1000000) (disch := first | omega | (simp only [new_n, put_n]; omega) | decide +kernel | (repeat first | rw [new_n] | rw [put_n])) only [wpS, wpT, Nat.reduceEqDiff, reduceIte, Nat.reduceLT, Nat.reduceLeDiff, Nat.reduceAdd, Nat.reduceMul, Nat.reduceBEq, Int.reduceToNat, zc32, st32, ld32, bs44, zc59, st59, bs42, bs38, ld59]
  refine call (refOf_ok 0 (by decide)) ?_
  rintro _ h6 ⟨hE6, rfl⟩
  have w6A := w5A.ext hE6
  simp -dsimp (maxSteps := 1000000) (disch := first | omega | (simp only [new_n, put_n]; omega) | decide +kernel | (repeat first | rw [new_n] | rw [put_n])) only [wpS, wpT, Nat.reduceEqDiff, reduceIte, Nat.reduceLT, Nat.reduceLeDiff, Nat.reduceAdd, Nat.reduceMul, Nat.reduceBEq, Int.reduceToNat, zc32, st32, ld32, bs44, zc59, st59, bs42, bs38, ld59]
  have a6 := w6A.cycle (hw5.ext hE6) (lo := 1) (hi := 3) (k := 2) (by decide) (by decide)
  refine call (kth_ok w6A.b a6 (wideN 0) (wideN_small (by decide))) ?_
  rintro _ h7 ⟨hE7, hr7⟩
  rw [wdI_wideN (inW_of64 (by decide)), total_cyc13, if_pos (by decide)] at hr7
  obtain ⟨x7, rfl, hx7⟩ := hr7
  rw [show (0 : Int).toNat = 0 from rfl, plan_cyc13] at hx7
  have w7A := w6A.ext hE7
  simp -dsimp (maxSteps := 1000000) (disch := first | omega | (simp only [new_n, put_n]; omega) | decide +kernel | (repeat first | rw [new_n] | rw [put_n])) only [wpS, wpT, Nat.reduceEqDiff, reduceIte, Nat.reduceLT, Nat.reduceLeDiff, Nat.reduceAdd, Nat.reduceMul, Nat.reduceBEq, Int.reduceToNat, zc32, st32, ld32, bs44, zc59, st59, bs42, bs38, ld59]
  refine ⟨wpSteady_two (wpSteady_one rfl rfl rfl rfl (steady_load (av := ptr (2 * c) 0) (v := .agg #[KI ((4 : Nat) : Int), vc]) rfl ?_ ?_)) (wpSteady_one rfl rfl rfl rfl (steady_load (av := ptr (2 * c) 0) (v := .agg #[KI ((4 : Nat) : Int), vc]) rfl ?_ ?_)), ?_⟩
  · simp -dsimp (maxSteps := 1000000) (disch := first | omega | (simp only [new_n, put_n]; omega) | decide +kernel | (repeat first | rw [new_n] | rw [put_n])) only [wpS, wpT, Nat.reduceEqDiff, reduceIte, Nat.reduceLT, Nat.reduceLeDiff, Nat.reduceAdd, Nat.reduceMul, Nat.reduceBEq, Int.reduceToNat, zc32, st32, ld32, bs44, zc59, st59, bs42, bs38, ld59, w4A.rc, List.drop_zero, take2]
  · simp -dsimp (maxSteps := 1000000) (disch := first | omega | (simp only [new_n, put_n]; omega) | decide +kernel | (repeat first | rw [new_n] | rw [put_n])) only [wpS, wpT, Nat.reduceEqDiff, reduceIte, Nat.reduceLT, Nat.reduceLeDiff, Nat.reduceAdd, Nat.reduceMul, Nat.reduceBEq, Int.reduceToNat, zc32, st32, ld32, bs44, zc59, st59, bs42, bs38, ld59, w5A.rc, List.drop_zero, take2]
  · simp -dsimp (maxSteps := 1000000) (disch := first | omega | (simp only [new_n, put_n]; omega) | decide +kernel | (repeat first | rw [new_n] | rw [put_n])) only [wpS, wpT, Nat.reduceEqDiff, reduceIte, Nat.reduceLT, Nat.reduceLeDiff, Nat.reduceAdd, Nat.reduceMul, Nat.reduceBEq, Int.reduceToNat, zc32, st32, ld32, bs44, zc59, st59, bs42, bs38, ld59, w4A.rc, List.drop_zero, take2]
  · simp -dsimp (maxSteps := 1000000) (disch := first | omega | (simp only [new_n, put_n]; omega) | decide +kernel | (repeat first | rw [new_n] | rw [put_n])) only [wpS, wpT, Nat.reduceEqDiff, reduceIte, Nat.reduceLT, Nat.reduceLeDiff, Nat.reduceAdd, Nat.reduceMul, Nat.reduceBEq, Int.reduceToNat, zc32, st32, ld32, bs44, zc59, st59, bs42, bs38, ld59, w6A.rc, List.drop_zero, take2]
  simp -dsimp (maxSteps := 1000000) (disch := first | omega | (simp only [new_n, put_n]; omega) | decide +kernel | (repeat first | rw [new_n] | rw [put_n])) only [wpS, wpT, Nat.reduceEqDiff, reduceIte, Nat.reduceLT, Nat.reduceLeDiff, Nat.reduceAdd, Nat.reduceMul, Nat.reduceBEq, Int.reduceToNat, zc32, st32, ld32, bs44, zc59, st59, bs42, bs38, ld59]
  -- Index of the cycle
  refine drawn [(0, [3])] (by kernel_rfl) (by kernel_rfl) rfl ?_
  simp -dsimp (maxSteps := 1000000) (disch := first | omega | (simp only [new_n, put_n]; omega) | decide +kernel | (repeat first | rw [new_n] | rw [put_n])) only [wpS, wpT, Nat.reduceEqDiff, reduceIte, Nat.reduceLT, Nat.reduceLeDiff, Nat.reduceAdd, Nat.reduceMul, Nat.reduceBEq, Int.reduceToNat, zc32, st32, ld32, bs44, zc59, st59, bs42, bs38, ld59, w7A.rc, List.drop_zero, take2]
  refine call (ones_ok 4 1 3 2 (by decide)) ?_
  rintro _ h8 ⟨hE8, w8, rfl, hw8⟩
  have w8A := w7A.ext hE8
  simp -dsimp (maxSteps := 1000000) (disch := first | omega | (simp only [new_n, put_n]; omega) | decide +kernel | (repeat first | rw [new_n] | rw [put_n])) only [wpS, wpT, Nat.reduceEqDiff, reduceIte, Nat.reduceLT, Nat.reduceLeDiff, Nat.reduceAdd, Nat.reduceMul, Nat.reduceBEq, Int.reduceToNat, zc32, st32, ld32, bs44, zc59, st59, bs42, bs38, ld59]
  have n8 : Ext h8 (h8.new (.cells [.int .i64 0, .int .i64 1, .int .i64 1, .int .i64 0] 1 none)) := (Ext.refl h8).new _
  have w8B := w8A.ext n8
  have a8 := w8B.cycle (hw8.ext n8) (lo := 1) (hi := 3) (k := 2) (by decide) (by decide)
  refine call (index_ok w8B.b a8 (p := [0, 1, 1, 0]) (sl_block (k := h8.n) (f := none) (get_new_same _ _ rfl) (by simp only [new_n]; omega) (by decide) rfl (by decide) (by decide))) ?_
  rintro _ h9 ⟨hE9, rfl⟩
  rw [idx_cyc13]
  have w9A := w8B.ext hE9
  have hspl : ∀ n, IH.splice [.int .u64 0, .int .u64 0, .int .u64 0, .int .u64 0, .int .u64 0, .int .u64 0, .int .u64 0, .int .u64 0] 0 (wdC n) = wdC n := fun n => splice_all (by rw [wdC_len]; rfl)
  simp -dsimp (maxSteps := 1000000) (disch := first | omega | (simp only [new_n, put_n]; omega) | decide +kernel | (repeat first | rw [new_n] | rw [put_n])) only [wpS, wpT, Nat.reduceEqDiff, reduceIte, Nat.reduceLT, Nat.reduceLeDiff, Nat.reduceAdd, Nat.reduceMul, Nat.reduceBEq, Int.reduceToNat, zc32, st32, ld32, bs44, zc59, st59, bs42, bs38, ld59, wdV_form, wdC_len, wdC_all, hspl, wd_take]
  refine ⟨wpSteady_one rfl rfl rfl rfl (steady_load (av := ptr (2 * c) 0) (v := .agg #[KI ((4 : Nat) : Int), vc]) rfl ?_ ?_), ?_⟩
  · simp -dsimp (maxSteps := 1000000) (disch := first | omega | (simp only [new_n, put_n]; omega) | decide +kernel | (repeat first | rw [new_n] | rw [put_n])) only [wpS, wpT, Nat.reduceEqDiff, reduceIte, Nat.reduceLT, Nat.reduceLeDiff, Nat.reduceAdd, Nat.reduceMul, Nat.reduceBEq, Int.reduceToNat, zc32, st32, ld32, bs44, zc59, st59, bs42, bs38, ld59, w7A.rc, List.drop_zero, take2]
  · simp -dsimp (maxSteps := 1000000) (disch := first | omega | (simp only [new_n, put_n]; omega) | decide +kernel | (repeat first | rw [new_n] | rw [put_n])) only [wpS, wpT, Nat.reduceEqDiff, reduceIte, Nat.reduceLT, Nat.reduceLeDiff, Nat.reduceAdd, Nat.reduceMul, Nat.reduceBEq, Int.reduceToNat, zc32, st32, ld32, bs44, zc59, st59, bs42, bs38, ld59, w8B.rc, List.drop_zero, take2]
  simp -dsimp (maxSteps := 1000000) (disch := first | omega | (simp only [new_n, put_n]; omega) | decide +kernel | (repeat first | rw [new_n] | rw [put_n])) only [wpS, wpT, Nat.reduceEqDiff, reduceIte, Nat.reduceLT, Nat.reduceLeDiff, Nat.reduceAdd, Nat.reduceMul, Nat.reduceBEq, Int.reduceToNat, zc32, st32, ld32, bs44, zc59, st59, bs42, bs38, ld59, wdV_form, wdC_len, wdC_all, hspl, wd_take]
  have eB : Ext h9 ((h9.new (.cells [.int .u64 0, .int .u64 0, .int .u64 0, .int .u64 0, .int .u64 0, .int .u64 0, .int .u64 0, .int .u64 0] 0 none)).put h9.n (.cells (wdC (wideN 4)) 0 none)) := ((Ext.refl h9).new _).put (Nat.le_refl _) _
  have gB : ((h9.new (.cells [.int .u64 0, .int .u64 0, .int .u64 0, .int .u64 0, .int .u64 0, .int .u64 0, .int .u64 0, .int .u64 0] 0 none)).put h9.n (.cells (wdC (wideN 4)) 0 none)).ext.get h9.n = some (.cells (wdC (wideN 4)) 0 none) := get_put_same _ _ rfl
  have w10 := w9A.ext eB
  have nB : h9.n < ((h9.new (.cells [.int .u64 0, .int .u64 0, .int .u64 0, .int .u64 0, .int .u64 0, .int .u64 0, .int .u64 0, .int .u64 0] 0 none)).put h9.n (.cells (wdC (wideN 4)) 0 none)).n := by simp only [new_n, put_n]; omega
  have eAll := (((((hE4.trans hE5).trans hE6).trans hE7).trans hE8).trans n8).trans (hE9.trans eB)
  have hx4' := hx4.ext ((((((hE5.trans hE6).trans hE7).trans hE8).trans n8).trans hE9).trans eB)
  have hx7' := hx7.ext (((hE8.trans n8).trans hE9).trans eB)
  generalize ((h9.new (.cells [.int .u64 0, .int .u64 0, .int .u64 0, .int .u64 0, .int .u64 0, .int .u64 0, .int .u64 0, .int .u64 0] 0 none)).put h9.n (.cells (wdC (wideN 4)) 0 none)) = hB2 at *
  generalize h9.n = t at *
  -- Kth of the path
  refine drawn [(0, [2, 3])] (by kernel_rfl) (by kernel_rfl) rfl ?_
  simp -dsimp (maxSteps := 1000000) (disch := first | omega | (simp only [new_n, put_n]; omega) | decide +kernel | (repeat first | rw [new_n] | rw [put_n])) only [wpS, wpT, Nat.reduceEqDiff, reduceIte, Nat.reduceLT, Nat.reduceLeDiff, Nat.reduceAdd, Nat.reduceMul, Nat.reduceBEq, Int.reduceToNat, zc32, st32, ld32, bs44, zc59, st59, bs42, bs38, ld59, w10.rp, List.drop_zero, take2]
  refine call (ones_ok 4 2 2 2 (by decide)) ?_
  rintro _ h11 ⟨hE11, v11, rfl, hv11⟩
  have w11A := w10.ext hE11
  simp -dsimp (maxSteps := 1000000) (disch := first | omega | (simp only [new_n, put_n]; omega) | decide +kernel | (repeat first | rw [new_n] | rw [put_n])) only [wpS, wpT, Nat.reduceEqDiff, reduceIte, Nat.reduceLT, Nat.reduceLeDiff, Nat.reduceAdd, Nat.reduceMul, Nat.reduceBEq, Int.reduceToNat, zc32, st32, ld32, bs44, zc59, st59, bs42, bs38, ld59]
  refine call (refOf_ok 1 (by decide)) ?_
  rintro _ h12 ⟨hE12, rfl⟩
  have w12A := w11A.ext hE12
  simp -dsimp (maxSteps := 1000000) (disch := first | omega | (simp only [new_n, put_n]; omega) | decide +kernel | (repeat first | rw [new_n] | rw [put_n])) only [wpS, wpT, Nat.reduceEqDiff, reduceIte, Nat.reduceLT, Nat.reduceLeDiff, Nat.reduceAdd, Nat.reduceMul, Nat.reduceBEq, Int.reduceToNat, zc32, st32, ld32, bs44, zc59, st59, bs42, bs38, ld59]
  have a12 := w12A.path (hv11.ext hE12) (lo := 2) (hi := 2) (k := 2) (by decide) (by decide)
  refine call (kth_ok w12A.b a12 (wideN 1) (wideN_small (by decide))) ?_
  rintro _ h13 ⟨hE13, hr13⟩
  rw [wdI_wideN (inW_of64 (by decide)), total_path22, if_neg (by decide)] at hr13
  subst hr13
  have w13A := w12A.ext hE13
  simp -dsimp (maxSteps := 1000000) (disch := first | omega | (simp only [new_n, put_n]; omega) | decide +kernel | (repeat first | rw [new_n] | rw [put_n])) only [wpS, wpT, Nat.reduceEqDiff, reduceIte, Nat.reduceLT, Nat.reduceLeDiff, Nat.reduceAdd, Nat.reduceMul, Nat.reduceBEq, Int.reduceToNat, zc32, st32, ld32, bs44, zc59, st59, bs42, bs38, ld59]
  refine ⟨wpSteady_two (wpSteady_one rfl rfl rfl rfl (steady_load (av := ptr (2 * p) 0) (v := .agg #[KI ((4 : Nat) : Int), vp]) rfl ?_ ?_)) (wpSteady_one rfl rfl rfl rfl (steady_load (av := ptr (2 * p) 0) (v := .agg #[KI ((4 : Nat) : Int), vp]) rfl ?_ ?_)), ?_⟩
  · simp -dsimp (maxSteps := 1000000) (disch := first | omega | (simp only [new_n, put_n]; omega) | decide +kernel | (repeat first | rw [new_n] | rw [put_n])) only [wpS, wpT, Nat.reduceEqDiff, reduceIte, Nat.reduceLT, Nat.reduceLeDiff, Nat.reduceAdd, Nat.reduceMul, Nat.reduceBEq, Int.reduceToNat, zc32, st32, ld32, bs44, zc59, st59, bs42, bs38, ld59, w10.rp, List.drop_zero, take2]
  · simp -dsimp (maxSteps := 1000000) (disch := first | omega | (simp only [new_n, put_n]; omega) | decide +kernel | (repeat first | rw [new_n] | rw [put_n])) only [wpS, wpT, Nat.reduceEqDiff, reduceIte, Nat.reduceLT, Nat.reduceLeDiff, Nat.reduceAdd, Nat.reduceMul, Nat.reduceBEq, Int.reduceToNat, zc32, st32, ld32, bs44, zc59, st59, bs42, bs38, ld59, w11A.rp, List.drop_zero, take2]
  · simp -dsimp (maxSteps := 1000000) (disch := first | omega | (simp only [new_n, put_n]; omega) | decide +kernel | (repeat first | rw [new_n] | rw [put_n])) only [wpS, wpT, Nat.reduceEqDiff, reduceIte, Nat.reduceLT, Nat.reduceLeDiff, Nat.reduceAdd, Nat.reduceMul, Nat.reduceBEq, Int.reduceToNat, zc32, st32, ld32, bs44, zc59, st59, bs42, bs38, ld59, w10.rp, List.drop_zero, take2]
  · simp -dsimp (maxSteps := 1000000) (disch := first | omega | (simp only [new_n, put_n]; omega) | decide +kernel | (repeat first | rw [new_n] | rw [put_n])) only [wpS, wpT, Nat.reduceEqDiff, reduceIte, Nat.reduceLT, Nat.reduceLeDiff, Nat.reduceAdd, Nat.reduceMul, Nat.reduceBEq, Int.reduceToNat, zc32, st32, ld32, bs44, zc59, st59, bs42, bs38, ld59, w12A.rp, List.drop_zero, take2]
  simp -dsimp (maxSteps := 1000000) (disch := first | omega | (simp only [new_n, put_n]; omega) | decide +kernel | (repeat first | rw [new_n] | rw [put_n])) only [wpS, wpT, Nat.reduceEqDiff, reduceIte, Nat.reduceLT, Nat.reduceLeDiff, Nat.reduceAdd, Nat.reduceMul, Nat.reduceBEq, Int.reduceToNat, zc32, st32, ld32, bs44, zc59, st59, bs42, bs38, ld59]
  -- Index of the path
  refine drawn [(0, [3])] (by kernel_rfl) (by kernel_rfl) rfl ?_
  simp -dsimp (maxSteps := 1000000) (disch := first | omega | (simp only [new_n, put_n]; omega) | decide +kernel | (repeat first | rw [new_n] | rw [put_n])) only [wpS, wpT, Nat.reduceEqDiff, reduceIte, Nat.reduceLT, Nat.reduceLeDiff, Nat.reduceAdd, Nat.reduceMul, Nat.reduceBEq, Int.reduceToNat, zc32, st32, ld32, bs44, zc59, st59, bs42, bs38, ld59, w13A.rp, List.drop_zero, take2]
  refine call (ones_ok 4 1 3 2 (by decide)) ?_
  rintro _ h14 ⟨hE14, v14, rfl, hv14⟩
  have w14A := w13A.ext hE14
  simp -dsimp (maxSteps := 1000000) (disch := first | omega | (simp only [new_n, put_n]; omega) | decide +kernel | (repeat first | rw [new_n] | rw [put_n])) only [wpS, wpT, Nat.reduceEqDiff, reduceIte, Nat.reduceLT, Nat.reduceLeDiff, Nat.reduceAdd, Nat.reduceMul, Nat.reduceBEq, Int.reduceToNat, zc32, st32, ld32, bs44, zc59, st59, bs42, bs38, ld59]
  have n14 : Ext h14 (h14.new (.cells [.int .i64 1, .int .i64 1, .int .i64 0, .int .i64 0] 1 none)) := (Ext.refl h14).new _
  have w14B := w14A.ext n14
  have a14 := w14B.path (hv14.ext n14) (lo := 1) (hi := 3) (k := 2) (by decide) (by decide)
  refine call (index_ok w14B.b a14 (p := [1, 1, 0, 0]) (sl_block (k := h14.n) (f := none) (get_new_same _ _ rfl) (by simp only [new_n]; omega) (by decide) rfl (by decide) (by decide))) ?_
  rintro _ h15 ⟨hE15, rfl⟩
  rw [idx_path13]
  have w15A := w14B.ext hE15
  simp -dsimp (maxSteps := 1000000) (disch := first | omega | (simp only [new_n, put_n]; omega) | decide +kernel | (repeat first | rw [new_n] | rw [put_n])) only [wpS, wpT, Nat.reduceEqDiff, reduceIte, Nat.reduceLT, Nat.reduceLeDiff, Nat.reduceAdd, Nat.reduceMul, Nat.reduceBEq, Int.reduceToNat, zc32, st32, ld32, bs44, zc59, st59, bs42, bs38, ld59, wdV_form, wdC_len, wdC_all, hspl, wd_take]
  refine ⟨wpSteady_one rfl rfl rfl rfl (steady_load (av := ptr (2 * p) 0) (v := .agg #[KI ((4 : Nat) : Int), vp]) rfl ?_ ?_), ?_⟩
  · simp -dsimp (maxSteps := 1000000) (disch := first | omega | (simp only [new_n, put_n]; omega) | decide +kernel | (repeat first | rw [new_n] | rw [put_n])) only [wpS, wpT, Nat.reduceEqDiff, reduceIte, Nat.reduceLT, Nat.reduceLeDiff, Nat.reduceAdd, Nat.reduceMul, Nat.reduceBEq, Int.reduceToNat, zc32, st32, ld32, bs44, zc59, st59, bs42, bs38, ld59, w13A.rp, List.drop_zero, take2]
  · simp -dsimp (maxSteps := 1000000) (disch := first | omega | (simp only [new_n, put_n]; omega) | decide +kernel | (repeat first | rw [new_n] | rw [put_n])) only [wpS, wpT, Nat.reduceEqDiff, reduceIte, Nat.reduceLT, Nat.reduceLeDiff, Nat.reduceAdd, Nat.reduceMul, Nat.reduceBEq, Int.reduceToNat, zc32, st32, ld32, bs44, zc59, st59, bs42, bs38, ld59, w14B.rp, List.drop_zero, take2]
  simp -dsimp (maxSteps := 1000000) (disch := first | omega | (simp only [new_n, put_n]; omega) | decide +kernel | (repeat first | rw [new_n] | rw [put_n])) only [wpS, wpT, Nat.reduceEqDiff, reduceIte, Nat.reduceLT, Nat.reduceLeDiff, Nat.reduceAdd, Nat.reduceMul, Nat.reduceBEq, Int.reduceToNat, zc32, st32, ld32, bs44, zc59, st59, bs42, bs38, ld59, wdV_form, wdC_len, wdC_all, hspl, wd_take]
  have eC : Ext h15 ((h15.new (.cells [.int .u64 0, .int .u64 0, .int .u64 0, .int .u64 0, .int .u64 0, .int .u64 0, .int .u64 0, .int .u64 0] 0 none)).put h15.n (.cells (wdC 0) 0 none)) := ((Ext.refl h15).new _).put (Nat.le_refl _) _
  have w16 := w15A.ext eC
  have eD := (((((hE11.trans hE12).trans hE13).trans hE14).trans n14).trans hE15).trans eC
  generalize ((h15.new (.cells [.int .u64 0, .int .u64 0, .int .u64 0, .int .u64 0, .int .u64 0, .int .u64 0, .int .u64 0, .int .u64 0] 0 none)).put h15.n (.cells (wdC 0) 0 none)) = hC at *
  -- the lists
  refine drawn [(0, [6]), (8, [13])] (by kernel_rfl) (by kernel_rfl) rfl ?_
  simp -dsimp (maxSteps := 1000000) (disch := first | omega | (simp only [new_n, put_n]; omega) | decide +kernel | (repeat first | rw [new_n] | rw [put_n])) only [wpS, wpT, Nat.reduceEqDiff, reduceIte, Nat.reduceLT, Nat.reduceLeDiff, Nat.reduceAdd, Nat.reduceMul, Nat.reduceBEq, Int.reduceToNat, zc32, st32, ld32, bs44, zc59, st59, bs42, bs38, ld59, w16.rp, List.drop_zero, take2]
  refine call (ones_ok 4 1 3 2 (by decide)) ?_
  rintro _ h17 ⟨hE17, v17, rfl, hv17⟩
  have w17A := w16.ext hE17
  simp -dsimp (maxSteps := 1000000) (disch := first | omega | (simp only [new_n, put_n]; omega) | decide +kernel | (repeat first | rw [new_n] | rw [put_n])) only [wpS, wpT, Nat.reduceEqDiff, reduceIte, Nat.reduceLT, Nat.reduceLeDiff, Nat.reduceAdd, Nat.reduceMul, Nat.reduceBEq, Int.reduceToNat, zc32, st32, ld32, bs44, zc59, st59, bs42, bs38, ld59]
  have n17 : Ext h17 (((((h17.new (.cells [.int .i64 0, .int .i64 0, .int .i64 0, .int .i64 1] 1 none)).new (.cells [.int .i64 0, .int .i64 0, .int .i64 1, .int .i64 1] 1 none)).new (.cells [.int .i64 0, .int .i64 1, .int .i64 1, .int .i64 1] 1 none)).new (.cells [.slice (some ⟨2 * (h17.n), 0, none⟩) 4 9, .slice (some ⟨2 * (h17.n + 1), 0, none⟩) 4 9, .slice (some ⟨2 * (h17.n + 1 + 1), 0, none⟩) 4 9] 1 none))) := ((((Ext.refl h17).new _).new _).new _).new _
  have pl1 : PlansAt (((((h17.new (.cells [.int .i64 0, .int .i64 0, .int .i64 0, .int .i64 1] 1 none)).new (.cells [.int .i64 0, .int .i64 0, .int .i64 1, .int .i64 1] 1 none)).new (.cells [.int .i64 0, .int .i64 1, .int .i64 1, .int .i64 1] 1 none)).new (.cells [.slice (some ⟨2 * (h17.n), 0, none⟩) 4 9, .slice (some ⟨2 * (h17.n + 1), 0, none⟩) 4 9, .slice (some ⟨2 * (h17.n + 1 + 1), 0, none⟩) 4 9] 1 none))) (.slice (some ⟨2 * (h17.n + 1 + 1 + 1), 0, none⟩) 3 7) [[0, 0, 0, 1], [0, 0, 1, 1], [0, 1, 1, 1]] := by
    refine ⟨[.slice (some ⟨2 * (h17.n), 0, none⟩) 4 9, .slice (some ⟨2 * (h17.n + 1), 0, none⟩) 4 9, .slice (some ⟨2 * (h17.n + 1 + 1), 0, none⟩) 4 9], sl_block (k := h17.n + 1 + 1 + 1) (f := none) ?_ (by simp only [new_n]; omega) (by decide) rfl (by decide) (by decide), ?_⟩
    · simp (disch := first | omega | (simp only [new_n, put_n]; omega) | (repeat first | rw [new_n] | rw [put_n])) only [get_new_same, get_new_old, get_put_same, get_put_old]
    intro i p hp
    match i, hp with
    | 0, hp =>
      cases hp
      refine ⟨_, rfl, sl_block (k := h17.n) (f := none) ?_ (by simp only [new_n]; omega) (by decide) rfl (by decide) (by decide)⟩
      simp (disch := first | omega | (simp only [new_n, put_n]; omega) | (repeat first | rw [new_n] | rw [put_n])) only [get_new_same, get_new_old, get_put_same, get_put_old]
      rfl
    | 1, hp =>
      cases hp
      refine ⟨_, rfl, sl_block (k := h17.n + 1) (f := none) ?_ (by simp only [new_n]; omega) (by decide) rfl (by decide) (by decide)⟩
      simp (disch := first | omega | (simp only [new_n, put_n]; omega) | (repeat first | rw [new_n] | rw [put_n])) only [get_new_same, get_new_old, get_put_same, get_put_old]
      rfl
    | 2, hp =>
      cases hp
      refine ⟨_, rfl, sl_block (k := h17.n + 1 + 1) (f := none) ?_ (by simp only [new_n]; omega) (by decide) rfl (by decide) (by decide)⟩
      simp (disch := first | omega | (simp only [new_n, put_n]; omega) | (repeat first | rw [new_n] | rw [put_n])) only [get_new_same, get_new_old, get_put_same, get_put_old]
      rfl
    | i + 3, hp => simp at hp
  have w17B := w17A.ext n17
  have a17 := w17B.path (hv17.ext n17) (lo := 1) (hi := 3) (k := 2) (by decide) (by decide)
  refine call (lists_ok w17B.b a17 pl1 (by decide)) ?_
  rintro _ h18 ⟨hE18, rfl⟩
  rw [decide_eq_true ⟨by rw [total_path13]; decide, plans_path13⟩]
  have w18A := w17B.ext hE18
  simp -dsimp (maxSteps := 1000000) (disch := first | omega | (simp only [new_n, put_n]; omega) | decide +kernel | (repeat first | rw [new_n] | rw [put_n])) only [wpS, wpT, Nat.reduceEqDiff, reduceIte, Nat.reduceLT, Nat.reduceLeDiff, Nat.reduceAdd, Nat.reduceMul, Nat.reduceBEq, Int.reduceToNat, zc32, st32, ld32, bs44, zc59, st59, bs42, bs38, ld59, w18A.rc, List.drop_zero, take2]
  refine call (ones_ok 4 2 2 2 (by decide)) ?_
  rintro _ h19 ⟨hE19, v19, rfl, hv19⟩
  have w19A := w18A.ext hE19
  simp -dsimp (maxSteps := 1000000) (disch := first | omega | (simp only [new_n, put_n]; omega) | decide +kernel | (repeat first | rw [new_n] | rw [put_n])) only [wpS, wpT, Nat.reduceEqDiff, reduceIte, Nat.reduceLT, Nat.reduceLeDiff, Nat.reduceAdd, Nat.reduceMul, Nat.reduceBEq, Int.reduceToNat, zc32, st32, ld32, bs44, zc59, st59, bs42, bs38, ld59]
  have n19 : Ext h19 ((((h19.new (.cells [.int .i64 0, .int .i64 0, .int .i64 1, .int .i64 1] 1 none)).new (.cells [.int .i64 0, .int .i64 1, .int .i64 1, .int .i64 0] 1 none)).new (.cells [.slice (some ⟨2 * (h19.n), 0, none⟩) 4 9, .slice (some ⟨2 * (h19.n + 1), 0, none⟩) 4 9] 1 none))) := (((Ext.refl h19).new _).new _).new _
  have pl2 : PlansAt ((((h19.new (.cells [.int .i64 0, .int .i64 0, .int .i64 1, .int .i64 1] 1 none)).new (.cells [.int .i64 0, .int .i64 1, .int .i64 1, .int .i64 0] 1 none)).new (.cells [.slice (some ⟨2 * (h19.n), 0, none⟩) 4 9, .slice (some ⟨2 * (h19.n + 1), 0, none⟩) 4 9] 1 none))) (.slice (some ⟨2 * (h19.n + 1 + 1), 0, none⟩) 2 5) [[0, 0, 1, 1], [0, 1, 1, 0]] := by
    refine ⟨[.slice (some ⟨2 * (h19.n), 0, none⟩) 4 9, .slice (some ⟨2 * (h19.n + 1), 0, none⟩) 4 9], sl_block (k := h19.n + 1 + 1) (f := none) ?_ (by simp only [new_n]; omega) (by decide) rfl (by decide) (by decide), ?_⟩
    · simp (disch := first | omega | (simp only [new_n, put_n]; omega) | (repeat first | rw [new_n] | rw [put_n])) only [get_new_same, get_new_old, get_put_same, get_put_old]
    intro i p hp
    match i, hp with
    | 0, hp =>
      cases hp
      refine ⟨_, rfl, sl_block (k := h19.n) (f := none) ?_ (by simp only [new_n]; omega) (by decide) rfl (by decide) (by decide)⟩
      simp (disch := first | omega | (simp only [new_n, put_n]; omega) | (repeat first | rw [new_n] | rw [put_n])) only [get_new_same, get_new_old, get_put_same, get_put_old]
      rfl
    | 1, hp =>
      cases hp
      refine ⟨_, rfl, sl_block (k := h19.n + 1) (f := none) ?_ (by simp only [new_n]; omega) (by decide) rfl (by decide) (by decide)⟩
      simp (disch := first | omega | (simp only [new_n, put_n]; omega) | (repeat first | rw [new_n] | rw [put_n])) only [get_new_same, get_new_old, get_put_same, get_put_old]
      rfl
    | i + 2, hp => simp at hp
  have w19B := w19A.ext n19
  have a19 := w19B.cycle (hv19.ext n19) (lo := 2) (hi := 2) (k := 2) (by decide) (by decide)
  refine call (lists_ok w19B.b a19 pl2 (by decide)) ?_
  rintro _ h20 ⟨hE20, rfl⟩
  rw [decide_eq_true ⟨by rw [total_cyc22]; decide, plans_cyc22⟩]
  have w20A := w19B.ext hE20
  simp -dsimp (maxSteps := 1000000) (disch := first | omega | (simp only [new_n, put_n]; omega) | decide +kernel | (repeat first | rw [new_n] | rw [put_n])) only [wpS, wpT, Nat.reduceEqDiff, reduceIte, Nat.reduceLT, Nat.reduceLeDiff, Nat.reduceAdd, Nat.reduceMul, Nat.reduceBEq, Int.reduceToNat, zc32, st32, ld32, bs44, zc59, st59, bs42, bs38, ld59]
  refine ⟨wpSteady_cons (wpSteady_one rfl rfl rfl rfl (steady_load (av := ptr (2 * p) 0) (v := .agg #[KI ((4 : Nat) : Int), vp]) rfl ?_ ?_)) (wpSteady_one rfl rfl rfl rfl (steady_load (av := ptr (2 * c) 0) (v := .agg #[KI ((4 : Nat) : Int), vc]) rfl ?_ ?_)), ?_⟩
  · simp -dsimp (maxSteps := 1000000) (disch := first | omega | (simp only [new_n, put_n]; omega) | decide +kernel | (repeat first | rw [new_n] | rw [put_n])) only [wpS, wpT, Nat.reduceEqDiff, reduceIte, Nat.reduceLT, Nat.reduceLeDiff, Nat.reduceAdd, Nat.reduceMul, Nat.reduceBEq, Int.reduceToNat, zc32, st32, ld32, bs44, zc59, st59, bs42, bs38, ld59, w16.rp, List.drop_zero, take2]
  · simp -dsimp (maxSteps := 1000000) (disch := first | omega | (simp only [new_n, put_n]; omega) | decide +kernel | (repeat first | rw [new_n] | rw [put_n])) only [wpS, wpT, Nat.reduceEqDiff, reduceIte, Nat.reduceLT, Nat.reduceLeDiff, Nat.reduceAdd, Nat.reduceMul, Nat.reduceBEq, Int.reduceToNat, zc32, st32, ld32, bs44, zc59, st59, bs42, bs38, ld59, w17B.rp, List.drop_zero, take2]
  · simp -dsimp (maxSteps := 1000000) (disch := first | omega | (simp only [new_n, put_n]; omega) | decide +kernel | (repeat first | rw [new_n] | rw [put_n])) only [wpS, wpT, Nat.reduceEqDiff, reduceIte, Nat.reduceLT, Nat.reduceLeDiff, Nat.reduceAdd, Nat.reduceMul, Nat.reduceBEq, Int.reduceToNat, zc32, st32, ld32, bs44, zc59, st59, bs42, bs38, ld59, w18A.rc, List.drop_zero, take2]
  · simp -dsimp (maxSteps := 1000000) (disch := first | omega | (simp only [new_n, put_n]; omega) | decide +kernel | (repeat first | rw [new_n] | rw [put_n])) only [wpS, wpT, Nat.reduceEqDiff, reduceIte, Nat.reduceLT, Nat.reduceLeDiff, Nat.reduceAdd, Nat.reduceMul, Nat.reduceBEq, Int.reduceToNat, zc32, st32, ld32, bs44, zc59, st59, bs42, bs38, ld59, w19B.rc, List.drop_zero, take2]
  simp -dsimp (maxSteps := 1000000) (disch := first | omega | (simp only [new_n, put_n]; omega) | decide +kernel | (repeat first | rw [new_n] | rw [put_n])) only [wpS, wpT, Nat.reduceEqDiff, reduceIte, Nat.reduceLT, Nat.reduceLeDiff, Nat.reduceAdd, Nat.reduceMul, Nat.reduceBEq, Int.reduceToNat, zc32, st32, ld32, bs44, zc59, st59, bs42, bs38, ld59]
  -- the answer
  have eE := ((((eD.trans hE17).trans n17).trans hE18).trans hE19).trans (n19.trans hE20)
  have hx4f := hx4'.ext eE
  have hx7f := hx7'.ext eE
  have gF : h20.row (2 * t) = some (wdC (wideN 4)) := by rw [eE.row (.inr (by omega)), row_even]; simp only [IH.cells, gB]
  refine drawn [(20, [37])] (by kernel_rfl) (by kernel_rfl) rfl ?_
  simp -dsimp (maxSteps := 1000000) (disch := first | omega | (simp only [new_n, put_n]; omega) | decide +kernel | (repeat first | rw [new_n] | rw [put_n])) only [wpS, wpT, Nat.reduceEqDiff, reduceIte, Nat.reduceLT, Nat.reduceLeDiff, Nat.reduceAdd, Nat.reduceMul, Nat.reduceBEq, Int.reduceToNat, zc32, st32, ld32, bs44, zc59, st59, bs42, bs38, ld59]
  have m1 : Ext h20 (h20.new (.cells [.int .u64 3, .int .u64 6, .int .u64 12] 1 none)) := (Ext.refl h20).new _
  have s1 : SlOf (h20.new (.cells [.int .u64 3, .int .u64 6, .int .u64 12] 1 none)) 1 (.slice (some ⟨2 * h20.n, 0, none⟩) 3 7) 3 ([3, 6, 12].map fun n : Nat => K64 n) := sl_block (k := h20.n) (f := none) (get_new_same _ _ rfl) (by simp only [new_n]; omega) (by decide) rfl (by decide) (by decide)
  refine call (equal64_ok (a := [3, 6, 12]) (b := [3, 6, 12]) (hx4f.ext m1).now s1.now (by decide) (fun x _ y _ o1 o2 => neq64 x y _ _ o1 o2)) ?_
  rintro _ h21 ⟨hh21, rfl⟩
  rw [hh21, decide_eq_true rfl]
  simp -dsimp (maxSteps := 1000000) (disch := first | omega | (simp only [new_n, put_n]; omega) | decide +kernel | (repeat first | rw [new_n] | rw [put_n])) only [wpS, wpT, Nat.reduceEqDiff, reduceIte, Nat.reduceLT, Nat.reduceLeDiff, Nat.reduceAdd, Nat.reduceMul, Nat.reduceBEq, Int.reduceToNat, zc32, st32, ld32, bs44, zc59, st59, bs42, bs38, ld59]
  have m2 : Ext h20 ((h20.new (.cells [.int .u64 3, .int .u64 6, .int .u64 12] 1 none)).new (.cells [.int .i64 0, .int .i64 0, .int .i64 0, .int .i64 1] 1 none)) := m1.new _
  have s2 : SlOf ((h20.new (.cells [.int .u64 3, .int .u64 6, .int .u64 12] 1 none)).new (.cells [.int .i64 0, .int .i64 0, .int .i64 0, .int .i64 1] 1 none)) 1 (.slice (some ⟨2 * (h20.n + 1), 0, none⟩) 4 9) 4 ([0, 0, 0, 1].map KI) := sl_block (k := h20.n + 1) (f := none) (get_new_same _ _ (by simp only [new_n])) (by simp only [new_n]; omega) (by decide) rfl (by decide) (by decide)
  refine call (equalP_ok (a := [0, 0, 0, 1]) (b := [0, 0, 0, 1]) (hx7f.ext m2).now s2.now (by decide) (fun x _ y _ o1 o2 => neqI x y _ _ o1 o2)) ?_
  rintro _ h22 ⟨hh22, rfl⟩
  rw [hh22, decide_eq_true rfl]
  have ht20 : t < h20.n := Nat.lt_of_lt_of_le nB eE.n
  simp -dsimp (maxSteps := 1000000) (disch := first | omega | (simp only [new_n, put_n]; omega) | decide +kernel | (repeat first | rw [new_n] | rw [put_n])) only [wpS, wpT, Nat.reduceEqDiff, reduceIte, Nat.reduceLT, Nat.reduceLeDiff, Nat.reduceAdd, Nat.reduceMul, Nat.reduceBEq, Int.reduceToNat, zc32, st32, ld32, bs44, zc59, st59, bs42, bs38, ld59, gF, wdC_len, wd_take]
  refine call (refOf_ok 4 (by decide)) ?_
  rintro _ h23 ⟨hE23, rfl⟩
  have hq4 : ∀ ox oy, binop Proofs.Tryd.prog .eql 59 ox oy (.agg (wdC (wideN 4)).toArray) (wideV 4) = some (.bool true) := fun ox oy => by
    have := wd_eql (wideN_small (show In64 4 by decide)) (wideN_small (show In64 4 by decide)) ox oy
    rw [decide_eq_true rfl] at this
    exact this
  have gG : h23.row (2 * t) = some (wdC (wideN 4)) := by rw [(m2.trans hE23).row (.inr (by omega))]; exact gF
  simp -dsimp (maxSteps := 1000000) (disch := first | omega | (simp only [new_n, put_n]; omega) | decide +kernel | (repeat first | rw [new_n] | rw [put_n])) only [wpS, wpT, Nat.reduceEqDiff, reduceIte, Nat.reduceLT, Nat.reduceLeDiff, Nat.reduceAdd, Nat.reduceMul, Nat.reduceBEq, Int.reduceToNat, zc32, st32, ld32, bs44, zc59, st59, bs42, bs38, ld59, hq4]
  refine ⟨wpSteady_one rfl rfl rfl rfl (steady_load (av := ptr (2 * t) 0) (v := wideV 4) rfl ?_ ?_), ?_⟩
  · simp -dsimp (maxSteps := 1000000) (disch := first | omega | (simp only [new_n, put_n]; omega) | decide +kernel | (repeat first | rw [new_n] | rw [put_n])) only [wpS, wpT, Nat.reduceEqDiff, reduceIte, Nat.reduceLT, Nat.reduceLeDiff, Nat.reduceAdd, Nat.reduceMul, Nat.reduceBEq, Int.reduceToNat, zc32, st32, ld32, bs44, zc59, st59, bs42, bs38, ld59, gF, wdC_len, wd_take]
    rfl
  · simp -dsimp (maxSteps := 1000000) (disch := first | omega | (simp only [new_n, put_n]; omega) | decide +kernel | (repeat first | rw [new_n] | rw [put_n])) only [wpS, wpT, Nat.reduceEqDiff, reduceIte, Nat.reduceLT, Nat.reduceLeDiff, Nat.reduceAdd, Nat.reduceMul, Nat.reduceBEq, Int.reduceToNat, zc32, st32, ld32, bs44, zc59, st59, bs42, bs38, ld59, gG, wdC_len, wd_take]
    rfl
  simp -dsimp (maxSteps := 1000000) (disch := first | omega | (simp only [new_n, put_n]; omega) | decide +kernel | (repeat first | rw [new_n] | rw [put_n])) only [wpS, wpT, Nat.reduceEqDiff, reduceIte, Nat.reduceLT, Nat.reduceLeDiff, Nat.reduceAdd, Nat.reduceMul, Nat.reduceBEq, Int.reduceToNat, zc32, st32, ld32, bs44, zc59, st59, bs42, bs38, ld59]
  exact w20A.e.trans (m2.trans hE23)
end Go.Id

/-! Counting plans: where a set is a district by its size alone. -/
namespace Go.Id
open Go

/-- How many nodes a set has. -/
def pop : Nat → Nat → Nat
  | 0, _ => 0
  | n + 1, s => s % 2 + pop n (s / 2)
theorem pop_zero : ∀ n, pop n 0 = 0
  | 0 => rfl
  | n + 1 => by simp [pop, pop_zero n]
theorem pop_pos : ∀ {n s : Nat}, s < 2 ^ n → s ≠ 0 → 0 < pop n s
  | 0, s, h, h0 => by simp at h; omega
  | n + 1, s, h, h0 => by
    rw [pop]
    rcases Nat.mod_two_eq_zero_or_one s with h1 | h1
    · have := pop_pos (n := n) (s := s / 2) (by rw [Nat.pow_succ] at h; omega) (by omega)
      omega
    · omega
theorem pop_le : ∀ (n s : Nat), pop n s ≤ n
  | 0, _ => Nat.le_refl _
  | n + 1, s => by have := pop_le n (s / 2); rw [pop]; omega
theorem pop_clr : ∀ (n r t : Nat), t &&& r = t → pop n (nclr r t) + pop n t = pop n r
  | 0, _, _, _ => rfl
  | n + 1, r, t, h => by
    have h1 := (sub_halves t r).1 h
    have ih := pop_clr n (r / 2) (t / 2) h1.1
    rw [pop, pop, pop, nclr_div, nclr_mod]
    rcases Nat.mod_two_eq_zero_or_one r with h2 | h2 <;> rcases Nat.mod_two_eq_zero_or_one t with h3 | h3 <;> simp [h2, h3] <;> omega
theorem pop_or : ∀ (n a b : Nat), a &&& b = 0 → pop n (a ||| b) = pop n a + pop n b
  | 0, _, _, _ => rfl
  | n + 1, a, b, h => by
    have h1 := and_halves a b
    have h2 := or_halves a b
    rw [h] at h1
    have e1 : a / 2 &&& b / 2 = 0 := by omega
    have e2 : a % 2 * (b % 2) = 0 := by omega
    have e3 : (a ||| b) / 2 = a / 2 ||| b / 2 := Nat.or_div_two
    have e4 : (a ||| b) % 2 = max (a % 2) (b % 2) := by rw [← e3] at h2; omega
    rw [pop, pop, pop, e3, e4, pop_or n _ _ e1]
    rcases Nat.mod_two_eq_zero_or_one a with h3 | h3 <;> rcases Nat.mod_two_eq_zero_or_one b with h4 | h4 <;> simp [h3, h4] at e2 ⊢ <;> omega
theorem pop_two : ∀ {n a : Nat}, a < n → pop n (2 ^ a) = 1
  | 0, _, h => by omega
  | n + 1, 0, _ => by
    show 1 % 2 + pop n (1 / 2) = 1
    rw [show 1 / 2 = 0 from rfl, pop_zero]
  | n + 1, a + 1, h => by
    rw [pop, show 2 ^ (a + 1) % 2 = 0 by rw [Nat.pow_succ]; omega, show 2 ^ (a + 1) / 2 = 2 ^ a by rw [Nat.pow_succ]; omega, pop_two (n := n) (by omega)]
/-- A sum over subsets, by size. -/
def cv (G : Nat → Nat) : Nat → Nat
  | 0 => G 0
  | p + 1 => cv G p + cv (fun j => G (j + 1)) p
theorem subS_pop : ∀ (n : Nat) (G : Nat → Nat) (m : Nat), m < 2 ^ n → subS (fun t => G (pop n t)) m (2 ^ n) = cv G (pop n m)
  | 0, G, m, h => by
    obtain rfl : m = 0 := by simpa using h
    simp [subS, sumTo, pop, cv]
  | n + 1, G, m, h => by
    have h2 : m / 2 < 2 ^ n := by rw [Nat.pow_succ] at h; omega
    have e0 : ∀ t, pop (n + 1) (2 * t) = pop n t := fun t => by rw [pop, show 2 * t % 2 = 0 by omega, show 2 * t / 2 = t by omega, Nat.zero_add]
    have e1 : ∀ t, pop (n + 1) (2 * t + 1) = pop n t + 1 := fun t => by rw [pop, show (2 * t + 1) % 2 = 1 by omega, show (2 * t + 1) / 2 = t by omega, Nat.add_comm]
    rw [Nat.pow_succ, Nat.mul_comm, subS_two, pop]
    simp only [e0, e1]
    by_cases hm : m % 2 = 1
    · rw [if_pos hm, subS_add, subS_pop n G _ h2, subS_pop n (fun j => G (j + 1)) _ h2, hm, Nat.add_comm 1, cv]
    · rw [if_neg hm, subS_pop n G _ h2, show m % 2 = 0 by omega, Nat.zero_add]
def dot : List Nat → (Nat → Nat) → Nat
  | [], _ => 0
  | a :: l, G => a * G 0 + dot l fun j => G (j + 1)
def addL : Nat → List Nat → List Nat
  | p, [] => [p]
  | p, a :: l => (p + a) :: addL a l
theorem dot_addL : ∀ (l : List Nat) (p : Nat) (G : Nat → Nat), dot (addL p l) G = p * G 0 + dot l G + dot l fun j => G (j + 1)
  | [], p, G => by simp [addL, dot]
  | a :: l, p, G => by
    rw [addL, dot, dot_addL l a, dot, dot, Nat.add_mul]; omega
/-- A row of Pascal's triangle. -/
def rowC : Nat → List Nat
  | 0 => [1]
  | p + 1 => addL 0 (rowC p)
theorem cv_dot : ∀ (p : Nat) (G : Nat → Nat), cv G p = dot (rowC p) G
  | 0, G => by simp [cv, rowC, dot]
  | p + 1, G => by rw [cv, rowC, dot_addL, cv_dot p G, cv_dot p fun j => G (j + 1)]; omega
/-- The ways to divide, by sizes. -/
def wP (f : Nat → Bool) : Nat → Nat → Nat
  | 0, m => if m = 0 then 1 else 0
  | _ + 1, 0 => 0
  | k + 1, m + 1 => dot (rowC m) fun j => if f (j + 1) = true then wP f k (m - j) else 0
theorem wP_succ (f : Nat → Bool) (k m : Nat) : wP f (k + 1) (m + 1) = dot (rowC m) fun j => if f (j + 1) = true then wP f k (m - j) else 0 := rfl
theorem sub_disj {t r c : Nat} (h : t &&& r = t) (hd : c &&& r = 0) : c &&& t = 0 := by
  rw [← h, Nat.and_comm t, ← Nat.and_assoc, hd, Nat.zero_and]
theorem ways_pop {F : Nat → Bool} {f : Nat → Bool} {n : Nat} (hn : n ≤ 64) (hF : ∀ s, s < 2 ^ n → F s = f (pop n s)) : ∀ (k s : Nat), s < 2 ^ n → ways F k s = wP f k (pop n s)
  | 0, s, h => by
    rw [ways, wP]
    by_cases h0 : s = 0
    · subst h0; rw [pop_zero]
    · have := pop_pos h h0
      rw [if_neg h0, if_neg (by omega)]
  | k + 1, s, h => by
    by_cases h0 : s = 0
    · subst h0; rw [pop_zero, ways, if_pos rfl]; rfl
    · have hp64 : 2 ^ n ≤ 2 ^ 64 := Nat.pow_le_pow_right (by omega) hn
      obtain ⟨a, ha⟩ := low_exists (u := s) (by omega)
      have hlow : lowM s = 2 ^ a := low_bit ha (by omega)
      have han : a < n := by
        refine Nat.lt_of_not_le fun hh => ?_
        have := Nat.testBit_lt_two_pow (Nat.lt_of_lt_of_le h (Nat.pow_le_pow_right (by omega) hh))
        rw [ha.1] at this; cases this
      have hlt : 2 ^ a < 2 ^ n := Nat.pow_lt_pow_right (by omega) han
      have hr : nclr s (lowM s) < 2 ^ n := nclr_lt h
      have hls : lowM s &&& s = lowM s := by rw [lowM, Nat.and_assoc, Nat.and_comm _ s, ← Nat.and_assoc, Nat.and_self]
      have hpr := pop_clr n s (lowM s) hls
      have hdis : lowM s &&& nclr s (lowM s) = 0 := by
        apply Nat.eq_of_testBit_eq
        intro j
        rw [Nat.testBit_and, testBit_nclr, Nat.zero_testBit]
        cases (lowM s).testBit j <;> simp
      have hp1 : pop n (lowM s) = 1 := by rw [hlow, pop_two han]
      obtain ⟨m, hm⟩ : ∃ m, pop n s = m + 1 := ⟨pop n s - 1, by omega⟩
      have hrm : pop n (nclr s (lowM s)) = m := by omega
      rw [ways, if_neg h0, hm, wP_succ, ← cv_dot, ← hrm, ← subS_pop n _ _ hr]
      simp only
      rw [sumFrom_all _ hr]
      refine subS_congr fun t ht1 ht => ?_
      have hpt := pop_clr n _ t ht
      have hor : t ||| lowM s < 2 ^ n := Nat.or_lt_two_pow ht1 (by rw [hlow]; exact hlt)
      rw [hF _ hor, Nat.or_comm, pop_or n _ _ (sub_disj ht hdis), hp1, Nat.add_comm 1, nclr_nclr, ways_pop hn hF k _ (nclr_lt hr), show pop n (nclr (nclr s (lowM s)) t) = pop n (nclr s (lowM s)) - pop n t by omega]
/-- The ways to complete, by sizes. -/
def aP (f : Nat → Bool) : List Nat → Nat → Nat → Nat
  | [], m, k => wP f k m
  | c :: cs, m, k => if cs.length + 1 ≤ k then dot (rowC m) (fun j => if f (c + j) = true then aP f cs (m - j) (k - 1) else 0) else 0
theorem after_pop {F : Nat → Bool} {f : Nat → Bool} {n : Nat} (hn : n ≤ 64) (hF : ∀ s, s < 2 ^ n → F s = f (pop n s)) : ∀ (cs : List Nat) (r k : Nat), r < 2 ^ n → (∀ c ∈ cs, c < 2 ^ n ∧ c &&& r = 0) → after F cs r k = aP f (cs.map (pop n)) (pop n r) k
  | [], r, k, hr, _ => ways_pop hn hF k r hr
  | c :: cs, r, k, hr, hc => by
    rw [after_cons, List.map_cons, aP, List.length_map]
    split
    · rw [← cv_dot, ← subS_pop n _ _ hr, sumFrom_all _ hr]
      refine subS_congr fun t ht1 ht => ?_
      have hcc := hc c (by simp)
      have hpt := pop_clr n _ t ht
      have hd := sub_disj ht hcc.2
      rw [hF _ (Nat.or_lt_two_pow hcc.1 ht1), pop_or n _ _ hd, after_pop hn hF cs _ _ (nclr_lt hr) fun d hd => ⟨(hc d (by simp [hd])).1, sub_disj (nclr_sub r t) (hc d (by simp [hd])).2⟩, show pop n (nclr r t) = pop n r - pop n t by omega]
    · rfl
/-- Sizes with a node more. -/
def labS (ss : List Nat) (l : Nat) : List Nat := if l = ss.length then ss ++ [1] else ss.set l (ss.getD l 0 + 1)
theorem pop_above {n node : Nat} (h : node < n) : pop n (above n node) = n - (node + 1) := by
  have key : ∀ n m : Nat, m ≤ n → pop n (2 ^ n - 2 ^ m) = n - m := by
    intro n
    induction n with
    | zero =>
      intro m hm
      obtain rfl : m = 0 := by omega
      rfl
    | succ n ih =>
      intro m hm
      rw [pop]
      have hpos : 0 < 2 ^ n := Nat.pow_pos (by omega)
      cases m with
      | zero =>
        rw [Nat.pow_zero, Nat.pow_succ, show (2 ^ n * 2 - 1) % 2 = 1 by omega, show (2 ^ n * 2 - 1) / 2 = 2 ^ n - 2 ^ 0 by rw [Nat.pow_zero]; omega, ih 0 (by omega)]; omega
      | succ m =>
        have : 2 ^ m ≤ 2 ^ n := Nat.pow_le_pow_right (by omega) (by omega)
        rw [Nat.pow_succ, Nat.pow_succ, show (2 ^ n * 2 - 2 ^ m * 2) % 2 = 0 by omega, show (2 ^ n * 2 - 2 ^ m * 2) / 2 = 2 ^ n - 2 ^ m by omega, ih m (by omega)]; omega
  exact key n (node + 1) (by omega)
theorem low_disj {n node c : Nat} (hc : c < 2 ^ (node + 1)) (h : node < n) : c &&& above n node = 0 := by
  apply Nat.eq_of_testBit_eq
  intro j
  rw [Nat.testBit_and, above, above_bit (by omega), Nat.zero_testBit]
  by_cases hj : node + 1 ≤ j
  · rw [Nat.testBit_lt_two_pow (Nat.lt_of_lt_of_le hc (Nat.pow_le_pow_right (by omega) hj))]; rfl
  · simp [hj]
theorem lab_sizes {n node : Nat} (hn : node < n) : ∀ {cs : List Nat} {l : Nat}, (∀ c ∈ cs, c < 2 ^ node) → (lab cs node l).map (pop n) = labS (cs.map (pop n)) l
  | [], l, _ => by
    unfold lab labS
    by_cases h : l = 0
    · subst h; simp [pop_two hn]
    · simp [h]
  | d :: cs, 0, hc => by
    have hd := hc d (by simp)
    have hdis : d &&& 2 ^ node = 0 := by
      apply Nat.eq_of_testBit_eq
      intro j
      rw [Nat.testBit_and, bit_two_pow, Nat.zero_testBit]
      by_cases hj : node = j
      · subst hj; rw [Nat.testBit_lt_two_pow hd]; rfl
      · simp [hj]
    rw [lab_zero, List.map_cons, pop_or n _ _ hdis, pop_two hn]
    rfl
  | d :: cs, l + 1, hc => by
    rw [lab_succ, List.map_cons, lab_sizes hn (cs := cs) fun c h => hc c (by simp [h])]
    unfold labS
    simp only [List.map_cons, List.length_cons]
    by_cases h : l = (List.map (pop n) cs).length
    · simp [h]
    · rw [if_neg h, if_neg (by omega)]; rfl
theorem lab_low {node : Nat} {cs : List Nat} {l : Nat} (hc : ∀ c ∈ cs, c < 2 ^ node) : ∀ c ∈ lab cs node l, c < 2 ^ (node + 1) :=
  lab_mem (n := node + 1) (by omega) fun c h => Nat.lt_of_lt_of_le (hc c h) (Nat.pow_le_pow_right (by omega) (by omega))
/-- The plan of a number, by sizes. -/
def planP (f : Nat → Bool) (n k : Nat) : Nat → Nat → List Nat → Nat → List Nat
  | 0, _, _, _ => []
  | m + 1, node, ss, i => match findLab (fun l => aP f (labS ss l) (n - (node + 1)) k) (ss.length + 1) 0 i with
    | some (l, j) => l :: planP f n k m (node + 1) (labS ss l) j
    | none => []
theorem after_lab {F : Nat → Bool} {f : Nat → Bool} {n : Nat} (hn : n ≤ 64) (hF : ∀ s, s < 2 ^ n → F s = f (pop n s)) {node : Nat} (hnode : node < n) {cs : List Nat} (hc : ∀ c ∈ cs, c < 2 ^ node) (l k : Nat) :
    after F (lab cs node l) (above n node) k = aP f (labS (cs.map (pop n)) l) (n - (node + 1)) k := by
  rw [after_pop hn hF _ _ _ (above_lt n node) fun c h => ⟨Nat.lt_of_lt_of_le (lab_low hc c h) (Nat.pow_le_pow_right (by omega) (by omega)), low_disj (lab_low hc c h) hnode⟩, lab_sizes hnode hc, pop_above hnode]
theorem plan_pop {F : Nat → Bool} {f : Nat → Bool} {n : Nat} (hn : n ≤ 64) (hF : ∀ s, s < 2 ^ n → F s = f (pop n s)) (k : Nat) : ∀ (m node : Nat) (cs : List Nat) (i : Nat), node + m ≤ n → (∀ c ∈ cs, c < 2 ^ node) → planAt F n k m node cs i = planP f n k m node (cs.map (pop n)) i
  | 0, _, _, _, _, _ => rfl
  | m + 1, node, cs, i, hm, hc => by
    rw [planAt, planP, List.length_map, findLab_congr (h := fun l => aP f (labS (cs.map (pop n)) l) (n - (node + 1)) k) _ _ _ fun l => after_lab hn hF (by omega) hc l k]
    cases hf : findLab (fun l => aP f (labS (cs.map (pop n)) l) (n - (node + 1)) k) (cs.length + 1) 0 i with
    | none => rfl
    | some p =>
      simp only
      rw [plan_pop hn hF k m (node + 1) _ _ (by omega) (lab_low hc), lab_sizes (by omega) hc]
def idxP (f : Nat → Bool) (n k : Nat) : Nat → List Nat → Nat → List Int → Option (Nat × List Nat)
  | _, ss, b, [] => some (b, ss)
  | node, ss, b, c :: l => if 0 ≤ c ∧ c ≤ ss.length then idxP f n k (node + 1) (labS ss c.toNat) (b + sumTo (fun l => aP f (labS ss l) (n - (node + 1)) k) c.toNat) l else none
theorem idx_pop {F : Nat → Bool} {f : Nat → Bool} {n : Nat} (hn : n ≤ 64) (hF : ∀ s, s < 2 ^ n → F s = f (pop n s)) (k : Nat) : ∀ (l : List Int) (node : Nat) (cs : List Nat) (b : Nat) (B : Nat) (S : List Nat), node + l.length ≤ n → (∀ c ∈ cs, c < 2 ^ node) → idxP f n k node (cs.map (pop n)) b l = some (B, S) →
    ∃ cs', idxGo F n k node cs b l = some (B, cs') ∧ cs'.map (pop n) = S ∧ ∀ c ∈ cs', c < 2 ^ (node + l.length)
  | [], node, cs, b, B, S, _, hc, h => by
    rw [idxP] at h; cases h
    exact ⟨cs, rfl, rfl, hc⟩
  | c :: l, node, cs, b, B, S, hl, hc, h => by
    simp only [List.length_cons] at hl
    rw [idxP, List.length_map] at h
    split at h
    · rename_i h0
      rw [← lab_sizes (by omega) hc] at h
      obtain ⟨cs', h1, h2, h3⟩ := idx_pop hn hF k l (node + 1) _ _ B S (by omega) (lab_low hc) h
      refine ⟨cs', ?_, h2, fun d hd => by have := h3 d hd; rwa [List.length_cons, show node + (l.length + 1) = node + 1 + l.length by omega]⟩
      rw [idxGo, if_pos h0, sumTo_congr fun x _ => after_lab hn hF (by omega) hc x k]
      exact h1
    · cases h
end Go.Id

/-! Counting plans: complete graphs, and graphs without edges. -/
namespace Go.Id
open Go

theorem pop_top : ∀ (m s : Nat), pop (m + 1) s = pop m s + if s.testBit m then 1 else 0
  | 0, s => by
    rw [pop, pop, pop, Nat.testBit_zero]
    rcases Nat.mod_two_eq_zero_or_one s with h | h <;> simp [h]
  | m + 1, s => by
    rw [pop, pop_top m (s / 2), Nat.testBit_div_two, pop]; omega
theorem weight_ones (s N : Nat) : ∀ m, m ≤ N → weightTo (List.replicate N 1) s m = pop m s
  | 0, _ => rfl
  | m + 1, h => by
    have : (List.replicate N (1 : Int)).getD m 0 = 1 := by
      rw [List.getD, List.getElem?_replicate, if_pos (by omega)]; rfl
    rw [weightTo, weight_ones s N m (by omega), pop_top, this]
    split <;> simp
def fullE (n : Nat) : List (Nat × Nat) := (List.range n).flatMap fun a => (List.range (n - (a + 1))).map fun d => (a, a + 1 + d)
def adjFull (n : Nat) : Bool := (List.range n).all fun i => (List.range n).all fun j => i == j || (adjOf (fullE n) i).testBit j
theorem full_conn {n s : Nat} (h : adjFull n = true) (h0 : 0 < s) (hs : s < 2 ^ n) : Conn (adjOf (fullE n)) s := by
  have inn : ∀ j, s.testBit j = true → j < n := fun j hj => by
    refine Nat.lt_of_not_le fun hh => ?_
    rw [Nat.testBit_lt_two_pow (Nat.lt_of_lt_of_le hs (Nat.pow_le_pow_right (by omega) hh))] at hj
    cases hj
  obtain ⟨k, hk⟩ := low_exists h0
  refine ⟨k, hk, fun T hT hc j hj => ?_⟩
  by_cases hjk : k = j
  · subst hjk; exact hT
  · refine hc k j hT ?_ hj
    have h1 := List.all_eq_true.1 h k (by simpa using inn k hk.1)
    have h2 := List.all_eq_true.1 h1 j (by simpa using inn j hj)
    simpa [hjk] using h2
theorem pop_pos_iff {n s : Nat} (hs : s < 2 ^ n) : 0 < pop n s ↔ 0 < s := by
  constructor
  · intro h
    rcases Nat.eq_zero_or_pos s with h0 | h0
    · rw [h0, pop_zero] at h; omega
    · exact h0
  · intro h; exact pop_pos hs (by omega)
/-- A district of a complete graph, by size. -/
def fitS (lo hi : Nat) (j : Nat) : Bool := decide (0 < j ∧ lo ≤ j ∧ j ≤ hi)
theorem fits_full {n : Nat} (h : adjFull n = true) (lo hi : Nat) : ∀ s, s < 2 ^ n → fitsB (fullE n) (List.replicate n 1) lo hi s = fitS lo hi (pop n s) := by
  intro s hs
  unfold fitsB fitS
  rw [List.length_replicate, weight_ones s n n (Nat.le_refl _)]
  apply decide_eq_decide.2
  rw [pop_pos_iff hs]
  constructor
  · rintro ⟨h1, h2, h3, _⟩; exact ⟨h1, by omega, by omega⟩
  · rintro ⟨h1, h2, h3⟩; exact ⟨h1, by omega, by omega, full_conn h h1 hs⟩
theorem fits_none {n : Nat} : ∀ s, s < 2 ^ n → fitsB [] (List.replicate n 1) (1 : Nat) (1 : Nat) s = fitS 1 1 (pop n s) := by
  intro s hs
  unfold fitsB fitS
  rw [List.length_replicate, weight_ones s n n (Nat.le_refl _)]
  apply decide_eq_decide.2
  constructor
  · rintro ⟨h1, h2, h3, _⟩; exact ⟨by omega, by omega, by omega⟩
  · rintro ⟨h1, h2, h3⟩
    have h0 := (pop_pos_iff hs).1 h1
    refine ⟨h0, by omega, by omega, ?_⟩
    obtain ⟨k, hk⟩ := low_exists h0
    refine ⟨k, hk, fun T hT hc j hj => ?_⟩
    have e1 : 2 ^ k &&& s = 2 ^ k := by
      apply Nat.eq_of_testBit_eq
      intro i
      rw [Nat.testBit_and, bit_two_pow]
      by_cases hi : k = i
      · subst hi; simp [hk.1]
      · simp [hi]
    have hkn : k < n := by
      refine Nat.lt_of_not_le fun hh => ?_
      have := Nat.testBit_lt_two_pow (Nat.lt_of_lt_of_le hs (Nat.pow_le_pow_right (by omega) hh))
      rw [hk.1] at this; cases this
    have e2 := pop_clr n s _ e1
    rw [pop_two hkn] at e2
    have e3 : nclr s (2 ^ k) = 0 := by
      rcases Nat.eq_zero_or_pos (nclr s (2 ^ k)) with h4 | h4
      · exact h4
      · have := pop_pos (n := n) (nclr_lt hs) (show nclr s (2 ^ k) ≠ 0 by omega)
        omega
    have e4 := congrArg (fun x => x.testBit j) e3
    simp only [testBit_nclr, bit_two_pow, Nat.zero_testBit, hj, Bool.true_and] at e4
    by_cases hkj : k = j
    · subst hkj; exact hT
    · simp [hkj] at e4
theorem total_pop {n : Nat} {E : List (Nat × Nat)} {ws : List Int} {lo hi : Int} {f : Nat → Bool} (hn : n ≤ 64) (hF : ∀ s, s < 2 ^ n → fitsB E ws lo hi s = f (pop n s)) (k : Nat) : totalP n E ws lo hi k = aP f [] n k := by
  have : 0 < 2 ^ n := Nat.pow_pos (by omega)
  have hp : pop n (2 ^ n - 1) = n := by
    have key : ∀ n : Nat, pop n (2 ^ n - 1) = n := by
      intro n
      induction n with
      | zero => rfl
      | succ n ih =>
        have hpos : 0 < 2 ^ n := Nat.pow_pos (by omega)
        rw [pop, Nat.pow_succ, show (2 ^ n * 2 - 1) % 2 = 1 by omega, show (2 ^ n * 2 - 1) / 2 = 2 ^ n - 1 by omega, ih]; omega
    exact key n
  have h := after_pop hn hF [] (2 ^ n - 1) k (by omega) fun c hc => by cases hc
  rw [hp] at h
  exact h
theorem plan_pop0 {n : Nat} {E : List (Nat × Nat)} {ws : List Int} {lo hi : Int} {f : Nat → Bool} (hn : n ≤ 64) (hF : ∀ s, s < 2 ^ n → fitsB E ws lo hi s = f (pop n s)) (k i : Nat) : planAt (fitsB E ws lo hi) n k n 0 [] i = planP f n k n 0 [] i :=
  plan_pop hn hF k n 0 [] i (by omega) fun c hc => by cases hc
theorem idx_pop0 {n : Nat} {E : List (Nat × Nat)} {ws : List Int} {lo hi : Int} {f : Nat → Bool} (hn : n ≤ 64) (hF : ∀ s, s < 2 ^ n → fitsB E ws lo hi s = f (pop n s)) {k : Nat} {p : List Int} {B : Nat} {S : List Nat} (hp : p.length = n) (h : idxP f n k 0 [] 0 p = some (B, S)) (h1 : aP f S 0 k = 1) :
    idxV (fitsB E ws lo hi) n k p = .tuple #[wideV B, KI 0] := by
  obtain ⟨cs, h2, h3, h4⟩ := idx_pop hn hF k p 0 [] 0 B S (by omega) (fun c hc => by cases hc) h
  refine idxV_of hp h2 ?_
  have h5 := after_pop hn hF cs 0 k (Nat.pow_pos (by omega)) fun c hc => ⟨by have := h4 c hc; rwa [Nat.zero_add, hp] at this, Nat.and_zero c⟩
  rw [h5, h3, pop_zero, h1]

/-! ### The numbers of EnumerateKnown -/
theorem adj5 : adjFull 5 = true := by decide +kernel
theorem adj6 : adjFull 6 = true := by decide +kernel
theorem adj7 : adjFull 7 = true := by decide +kernel
theorem adj12 : adjFull 12 = true := by decide +kernel
theorem gr5 : graphErr (5 : Nat) (castE (fullE 5)) = 0 := by decide +kernel
theorem gr6 : graphErr (6 : Nat) (castE (fullE 6)) = 0 := by decide +kernel
theorem gr7 : graphErr (7 : Nat) (castE (fullE 7)) = 0 := by decide +kernel
theorem gr12 : graphErr (12 : Nat) (castE (fullE 12)) = 0 := by decide +kernel
theorem gr0 : graphErr (12 : Nat) (castE []) = 0 := by decide +kernel
theorem gr08 : graphErr (8 : Nat) (castE []) = 0 := by decide +kernel
theorem gr01 : graphErr (1 : Nat) (castE []) = 0 := by decide +kernel
theorem ones_all (n : Nat) : ∀ w ∈ List.replicate n (1 : Int), 0 ≤ w ∧ w ≤ 1000000000 := fun w hw => by
  obtain rfl := List.eq_of_mem_replicate hw; decide
theorem en_ok {n : Nat} {E : List (Nat × Nat)} (hg : graphErr n (castE E) = 0) (hn : n ≤ 12) {lo hi : Int} {k : Nat} (h : 1 ≤ k ∧ k ≤ 8 ∧ 0 ≤ lo ∧ lo ≤ hi) : enErr n (castE E) (List.replicate n 1) lo hi k = 0 := by
  rw [enErr, if_pos hg, if_pos (by omega), if_pos ⟨by simp, ones_all n, by omega⟩]
theorem total6 (k : Nat) : totalP 6 (fullE 6) (List.replicate 6 1) (0 : Nat) (6 : Nat) k = aP (fitS 0 6) [] 6 k := total_pop (by decide) (fits_full adj6 0 6) k
theorem totals6 : [1, 2, 3, 4, 5, 6].map (aP (fitS 0 6) [] 6) = [1, 31, 90, 65, 15, 1] := by decide +kernel
theorem total12a : totalP 12 (fullE 12) (List.replicate 12 1) (0 : Nat) (12 : Nat) 4 = 611501 := by rw [total_pop (by decide) (fits_full adj12 0 12)]; decide +kernel
theorem total12b : totalP 12 (fullE 12) (List.replicate 12 1) (3 : Nat) (3 : Nat) 4 = 15400 := by rw [total_pop (by decide) (fits_full adj12 3 3)]; decide +kernel
theorem total12c : totalP 12 [] (List.replicate 12 1) (1 : Nat) (1 : Nat) 8 = 0 := by rw [total_pop (by decide) fits_none]; decide +kernel
theorem total8 : totalP 8 [] (List.replicate 8 1) (1 : Nat) (1 : Nat) 8 = 1 := by rw [total_pop (by decide) fits_none]; decide +kernel
theorem total7 : totalP 7 (fullE 7) (List.replicate 7 1) (0 : Nat) (7 : Nat) 3 = 301 := by rw [total_pop (by decide) (fits_full adj7 0 7)]; decide +kernel
theorem plan12 : planAt (fitsB (fullE 12) (List.replicate 12 1) (0 : Nat) (12 : Nat)) 12 4 12 0 [] 611500 = [0, 1, 2, 3, 3, 3, 3, 3, 3, 3, 3, 3] := by rw [plan_pop0 (by decide) (fits_full adj12 0 12)]; decide +kernel
theorem idxF12 : idxV (fitsB (fullE 12) (List.replicate 12 1) (0 : Nat) (12 : Nat)) 12 4 [0, 1, 2, 3, 3, 3, 3, 3, 3, 3, 3, 3] = .tuple #[wideV 611500, KI 0] :=
  idx_pop0 (B := 611500) (S := [1, 1, 1, 9]) (by decide) (fits_full adj12 0 12) rfl (by decide +kernel) (by decide +kernel)
theorem dist5 : distL (fitsB (fullE 5) (List.replicate 5 1) (2 : Nat) (2 : Nat)) (2 ^ 5) = [3, 5, 6, 9, 10, 12, 17, 18, 20, 24] := by
  have : distL (fitsB (fullE 5) (List.replicate 5 1) (2 : Nat) (2 : Nat)) (2 ^ 5) = distL (fun s => fitS 2 2 (pop 5 s)) (2 ^ 5) := List.filter_congr fun s hs => fits_full adj5 2 2 s (by simpa using hs)
  rw [this]; decide +kernel
theorem one_a : plansP 1 [] (List.replicate 1 1) 0 1 1 = [[0]] := by rw [plansP_tab (T := 2) (by decide +kernel)]; decide +kernel
theorem one_b : plansP 1 [] (List.replicate 1 1) 0 1 2 = [] := by rw [plansP_tab (T := 2) (by decide +kernel)]; decide +kernel
theorem one_c : plansP 4 pathE (List.replicate 4 1) 5 9 1 = [] := by rw [plansP_tab (T := 0) (by decide +kernel)]; decide +kernel
theorem one_d : plansP 4 pathE (List.replicate 4 1) 0 4 1 = [[0, 0, 0, 0]] := by rw [plansP_tab (T := 53726) (by decide +kernel)]; decide +kernel
theorem path_bad1 : idxV (fitsB pathE one4 1 3) 4 2 [0, 0, 0, 0] = .tuple #[wdV 0, KI 2] := by
  rw [idxV_tab path13]
  exact idxV_bad (b := 0) (cs := [15]) (by decide +kernel) (by decide +kernel)
theorem path_bad2 : idxV (fitsB pathE one4 1 3) 4 2 [0, 1, 0, 1] = .tuple #[wdV 0, KI 2] := by
  rw [idxV_tab path13]
  exact idxV_bad (b := 2) (cs := [5, 10]) (by decide +kernel) (by decide +kernel)
theorem path_bad3 : idxV (fitsB pathE one4 1 3) 4 2 [0, 0, 2, 1] = .tuple #[wdV 0, KI 2] := by
  rw [idxV_tab path13]
  exact idxV_no (by decide +kernel)
theorem path_bad0 : idxV (fitsB pathE one4 1 3) 4 2 [0, 0, 1] = .tuple #[wdV 0, KI 2] := by
  rw [idxV, if_neg (by decide)]
end Go.Id

/-! Contracts: slices.Repeat: what it returns lies in a block of its own. -/
namespace Go.Id
open Go
theorem repeat_own {h : IH} {v : Value} (x : Int) (hs : SlOf h 1 v 1 [KI x]) (n : Nat) (hn : n ≤ 1000000) :
    WV Proofs.Tryd.prog (.func (.func 53) #[] #[]) [v, KI n] h fun r h' => Ext h h' ∧ ∃ b, h.n ≤ b ∧ b < h'.n ∧ r = .slice (some ⟨2 * b, 0, none⟩) n (2 * n + 1) ∧ h'.ext.get b = some (.cells (List.replicate n (KI x)) 1 none) := by
  have e1 : ((1 : Nat) : Int) = 1 := rfl
  refine enter (nt := 48) (rs := [.tmp 4]) Proofs.Tryd.func53 rfl rfl rfl (by simp) ?_
  simp -dsimp (maxSteps := 1000000) (disch := first | omega | (simp only [new_n, put_n]; omega) | decide +kernel | (repeat first | rw [new_n] | rw [put_n])) only [wpS, wpT, Nat.reduceEqDiff, reduceIte, Nat.reduceLT, Nat.reduceLeDiff, Nat.reduceAdd, Nat.reduceMul, Nat.reduceBEq, Int.reduceToNat, cv3_116, cv116_3, ms33, es33, ln33, sl33, hs.len sl33]
  refine call (mul_ok 1 n (by omega) (by omega)) ?_
  rintro _ _ ⟨rfl, rfl⟩
  rw [Nat.one_mul]
  rename_i h1
  have hE : Ext h1 (h1.new (.cells (repl n [KI 0]) 1 none)) := (Ext.refl h1).new _
  have hnow : SlNow (h1.new (.cells (repl n [KI 0]) 1 none)) 1 v 1 [KI x] := (hs.keep hE.keep).now
  have fin : ∀ h2 : IH, Ext h1 h2 → h1.n < h2.n → h2.ext.get h1.n = some (.cells (fil n n x) 1 none) → ∃ b, h1.n ≤ b ∧ b < h2.n ∧ (.slice (some ⟨2 * h1.n, 0, none⟩) n (2 * n + 1) : Value) = .slice (some ⟨2 * b, 0, none⟩) n (2 * n + 1) ∧ h2.ext.get b = some (.cells (List.replicate n (KI x)) 1 none) := by
    intro h2 _ hlt hg
    have : List.replicate n (KI x) = fil n n x := by
      apply List.ext_getElem
      · simp [fil]
      · intro i a b
        simp [fil]
        intro hh; simp at a; omega
    rw [this]
    exact ⟨h1.n, Nat.le_refl _, hlt, rfl, hg⟩
  rcases Nat.eq_zero_or_pos n with rfl | hp
  · have hcp := copy_none (P := Proofs.Tryd.prog) u33 sz3 (h1.new (.cells (repl 0 [KI 0]) 1 none)) h1.n 0 1 hnow #[33, 33] rfl
    rw [show repl 0 [KI 0] = [] from rfl] at hcp
    simp -dsimp (maxSteps := 1000000) (disch := first | omega | (simp only [new_n, put_n]; omega) | decide +kernel | (repeat first | rw [new_n] | rw [put_n])) only [wpS, wpT, Nat.reduceEqDiff, reduceIte, Nat.reduceLT, Nat.reduceLeDiff, Nat.reduceAdd, Nat.reduceMul, Nat.reduceBEq, Int.reduceToNat, cv3_116, cv116_3, ms33, es33, ln33, sl33, hcp]
    refine loop (fun m fr h2 => h2 = h1.new (.cells [] 1 none) ∧ fget fr 7 = some (.slice (some ⟨2 * h1.n, 0, none⟩) 0 1) ∧ fget fr 8 = some (KI 0)) 0 ⟨rfl, by simp, by simp⟩ ?_
    rintro m fr h2 ⟨rfl, f7, f8⟩
    simp -dsimp (maxSteps := 1000000) (disch := first | omega | (simp only [new_n, put_n]; omega) | decide +kernel | (repeat first | rw [new_n] | rw [put_n])) only [wpS, wpT, Nat.reduceEqDiff, reduceIte, Nat.reduceLT, Nat.reduceLeDiff, Nat.reduceAdd, Nat.reduceMul, Nat.reduceBEq, Int.reduceToNat, cv3_116, cv116_3, ms33, es33, ln33, sl33, f7, f8]
    exact ⟨hE, fin _ hE (by simp) (by rw [get_new_same _ _ rfl]; rfl)⟩
  · have hcp := copy_eq (P := Proofs.Tryd.prog) u33 sz3 (h := h1.new (.cells (fil n 0 x) 1 none)) (k := h1.n) (o := 0) (dn := n) (c := 2 * n + 1) (cs := fil n 0 x) (e2 := 1) (get_new_same _ _ rfl) (sn := 1) (ss := [KI x]) ((hs.keep ((Ext.refl h1).new _).keep).now) (by simp [cellOK, KI]) (by omega) (by rw [fil_len]; omega) #[33, 33] rfl
    have hx1 : IH.splice (fil n 0 x) 0 ([KI x].take (min 1 n * 1)) = fil n 1 x := by
      rw [show min 1 n = 1 by omega]; exact fil_one hp x
    rw [hx1, show ((min 1 n : Nat) : Int) = 1 by omega] at hcp
    have hE2 : Ext h1 ((h1.new (.cells (fil n 0 x) 1 none)).put h1.n (.cells (fil n 1 x) 1 none)) := ((Ext.refl h1).new _).put (Nat.le_refl _) _
    have hg2 : ((h1.new (.cells (fil n 0 x) 1 none)).put h1.n (.cells (fil n 1 x) 1 none)).ext.get h1.n = some (.cells (fil n 1 x) 1 none) := get_put_same _ _ rfl
    have hl2 : h1.n < ((h1.new (.cells (fil n 0 x) 1 none)).put h1.n (.cells (fil n 1 x) 1 none)).n := by simp
    rw [fil_zero] at hcp hE2 hg2 hl2
    simp -dsimp (maxSteps := 1000000) (disch := first | omega | (simp only [new_n, put_n]; omega) | decide +kernel | (repeat first | rw [new_n] | rw [put_n])) only [wpS, wpT, Nat.reduceEqDiff, reduceIte, Nat.reduceLT, Nat.reduceLeDiff, Nat.reduceAdd, Nat.reduceMul, Nat.reduceBEq, Int.reduceToNat, cv3_116, cv116_3, ms33, es33, ln33, sl33, hcp]
    refine loop (fun m fr h3 => ∃ k : Nat, 0 < k ∧ k + m = n ∧ Ext h1 h3 ∧ h1.n < h3.n ∧ h3.ext.get h1.n = some (.cells (fil n k x) 1 none) ∧ fget fr 7 = some (.slice (some ⟨2 * h1.n, 0, none⟩) n (2 * n + 1)) ∧ fget fr 8 = some (KI k)) (n - 1) ⟨1, by omega, by omega, hE2, hl2, hg2, by simp, by simp⟩ ?_
    rintro m fr h3 ⟨k, hk0, hkm, hE3, hl3, hg3, f7, f8⟩
    simp -dsimp (maxSteps := 1000000) (disch := first | omega | (simp only [new_n, put_n]; omega) | decide +kernel | (repeat first | rw [new_n] | rw [put_n])) only [wpS, wpT, Nat.reduceEqDiff, reduceIte, Nat.reduceLT, Nat.reduceLeDiff, Nat.reduceAdd, Nat.reduceMul, Nat.reduceBEq, Int.reduceToNat, cv3_116, cv116_3, ms33, es33, ln33, sl33, f7, f8]
    refine bq_intro ?_ ?_ <;> intro hc2 <;> simp only [bne_iff_ne, beq_iff_eq, decide_eq_true_eq, decide_eq_false_iff_not, bne_eq_false_iff_eq, beq_eq_false_iff_ne, ne_eq, Bool.not_eq_true', Bool.not_eq_false', Bool.not_eq_true, Bool.not_eq_false, Decidable.not_not, Bool.not_not] at hc2
    · have s1 := slice_odd (P := Proofs.Tryd.prog) u33 sz3 h3 (b := 2 * h1.n) (o := 0) (n := n) (k := 2 * n + 1) (l := k) (m := n) (by omega) (by omega) (lo := some (KI k)) (hi := none) (natOf_nat (k := .i64) (by omega)) rfl
      have s2 := slice_odd (P := Proofs.Tryd.prog) u33 sz3 h3 (b := 2 * h1.n) (o := 0) (n := n) (k := 2 * n + 1) (l := 0) (m := k) (by omega) (by omega) (lo := none) (hi := some (KI k)) rfl (natOf_nat (k := .i64) (by omega))
      have hr : h3.row (2 * h1.n) = some (fil n k x) := by rw [row_even]; simp [IH.cells, hg3]
      have hno := slNow_mk (h := h3) (b := 2 * h1.n) (o := 0 + 0 * 1) (n := k - 0) (k := 2 * n + 1 - 2 * 0) (sz := 1) (by omega) hr (by rw [fil_len]; omega)
      have hc3 := copy_eq (P := Proofs.Tryd.prog) u33 sz3 (h := h3) (k := h1.n) (o := 0 + k * 1) (dn := n - k) (c := 2 * n + 1 - 2 * k) (cs := fil n k x) (e2 := 1) hg3 hno (fil_ok _ _ _ fun y hy => List.mem_of_mem_drop (List.mem_of_mem_take hy)) (by omega) (by rw [fil_len]; omega) #[33, 33] rfl
      have hx3 : IH.splice (fil n k x) (0 + k * 1) (((List.drop (0 + 0 * 1) (fil n k x)).take ((k - 0) * 1)).take (min (k - 0) (n - k) * 1)) = fil n (k + min k (n - k)) x := by
        rw [show 0 + 0 * 1 = 0 from rfl, List.drop_zero, List.take_take, show 0 + k * 1 = k by omega, show min (min (k - 0) (n - k) * 1) ((k - 0) * 1) = min k (n - k) by omega]
        exact fil_splice x (by omega) (by omega)
      rw [hx3] at hc3
      simp only [Nat.zero_add, Nat.mul_one, Nat.zero_mul, Nat.mul_zero, Nat.add_zero] at hc3 s1 s2
      simp -dsimp (maxSteps := 1000000) (disch := first | omega | (simp only [new_n, put_n]; omega) | decide +kernel | (repeat first | rw [new_n] | rw [put_n])) only [wpS, wpT, Nat.reduceEqDiff, reduceIte, Nat.reduceLT, Nat.reduceLeDiff, Nat.reduceAdd, Nat.reduceMul, Nat.reduceBEq, Int.reduceToNat, cv3_116, cv116_3, ms33, es33, ln33, sl33, f7, f8, s1, s2, hc3]
      refine ⟨m - min k m, by omega, k + min k m, by omega, by omega, hE3.put (by omega) _, by simp; omega, ?_, by simp [f7], ?_⟩
      · rw [show n - k = m by omega]; exact get_put_same _ _ rfl
      · rw [fget_cons, if_pos rfl]; exact congrArg (fun z => some (Value.int .i64 z)) (by omega)
    · simp -dsimp (maxSteps := 1000000) (disch := first | omega | (simp only [new_n, put_n]; omega) | decide +kernel | (repeat first | rw [new_n] | rw [put_n])) only [wpS, wpT, Nat.reduceEqDiff, reduceIte, Nat.reduceLT, Nat.reduceLeDiff, Nat.reduceAdd, Nat.reduceMul, Nat.reduceBEq, Int.reduceToNat, cv3_116, cv116_3, ms33, es33, ln33, sl33, f7]
      obtain rfl : k = n := by omega
      exact ⟨hE3, fin _ hE3 hl3 hg3⟩
end Go.Id
