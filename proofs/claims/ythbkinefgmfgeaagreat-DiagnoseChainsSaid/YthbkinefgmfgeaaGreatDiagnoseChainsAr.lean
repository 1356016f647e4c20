/-
  DiagnoseChains: for every input the law returns true, and each argument reads as it did. Conditions: none but the row's own.
-/
import Derived.Test.YthbkinefgmfgeaaGreatDiagnoseChainsAq
import Derived.Test.YthbkinefgmfgeaaGreatDiagnoseChainsAo
set_option linter.unusedVariables false
set_option linter.unusedSimpArgs false
set_option linter.defProp false
set_option linter.deprecated false
/-! The statement DiagnoseChains, on the ideal machine. -/
namespace Go.Id
open Go
noncomputable def partC (i : Nat) : Code := nthC (Proofs.Tryz.f5.body.getD .skip) i
theorem toldP_form (q : Rat) : ∃ (p : Nat × Nat) (e : Int), (p.1 < W8 ∧ p.2 < W8) ∧ toldV q = .tuple #[shV p.1 p.2, KI e] := by
 unfold toldV
 split
 ·rename_i h; exact ⟨shq q, 0, shq_lt h, rfl⟩
 ·exact ⟨(0, 0), 6, ⟨by decide +kernel, by decide +kernel⟩, rfl⟩
theorem errP_form (e : Int) : ∃ (p : Nat × Nat) (e' : Int), (p.1 < W8 ∧ p.2 < W8) ∧ errV e = .tuple #[shV p.1 p.2, KI e'] := ⟨(0, 0), e, ⟨by decide +kernel, by decide +kernel⟩, rfl⟩
theorem meanP_form (l : List (Nat × Nat)) : ∃ (p : Nat × Nat) (e : Int), (p.1 < W8 ∧ p.2 < W8) ∧ meanRes l = .tuple #[shV p.1 p.2, KI e] := by
 unfold meanRes; split
 ·exact toldP_form _
 ·exact errP_form _
theorem autoP_form (l : List (Nat × Nat)) (k : Int) : ∃ (p : Nat × Nat) (e : Int), (p.1 < W8 ∧ p.2 < W8) ∧ autoRes l k = .tuple #[shV p.1 p.2, KI e] := by
 unfold autoRes; split
 ·split
  ·exact toldP_form _
  ·exact errP_form _
 ·exact errP_form _
theorem effP_form (l : List (Nat × Nat)) : ∃ (p : Nat × Nat) (e : Int), (p.1 < W8 ∧ p.2 < W8) ∧ effRes l = .tuple #[shV p.1 p.2, KI e] := by
 unfold effRes; split
 ·split
  ·exact errP_form _
  ·exact toldP_form _
 ·exact errP_form _
theorem box_put (h : IH) (p : Nat × Nat) : ∃ H0, H0 = (h.new (.cells Z16 0 none)).put h.n (.cells (shC p.1 p.2) 0 none) ∧ H0.n = h.n + 1 ∧ Ext h H0 ∧ H0.ext.get h.n = some (.cells (shC p.1 p.2) 0 none) := by
 refine ⟨_, rfl, rfl, ((Ext.refl h).new _).put (by omega) _, ?_⟩
 simp (disch := first | omega | (simp only [new_n, put_n]; omega) | (repeat first | rw [new_n] | rw [put_n])) only [get_put_same]
theorem neq_same {p : Nat × Nat} (h : p.1 < W8 ∧ p.2 < W8) (ox oy : Operand) : binop Proofs.Tryz.prog .neq 30 ox oy (.agg (shC p.1 p.2).toArray) (.agg (shC p.1 p.2).toArray) = some (.bool false) := by
 rw [sh_neq h.1 h.2 h.1 h.2]; simp
theorem rem13 (size : Int) : ∃ z : Int, (0 ≤ z ∧ z < 13) ∧ ∀ ox oy, binop Proofs.Tryz.prog .rem 56 ox oy (.int .u64 (IntKind.u64.wrap size)) (.int .u64 13) = some (.int .u64 z) := by
 obtain ⟨y, hy⟩ := u64wrap size
 rw [hy]
 refine ⟨(y : Int).tmod 13, ?_, fun ox oy => binop_rem _ _ _ _ (by decide)⟩
 rw [Int.tmod_eq_emod_of_nonneg (by omega)]
 omega
structure CX (h hh : IH) (fr : Fr) (v w : Value) (lag : Int) (most : Bool) : Prop where
 e : Ext h hh
 f0 : fget fr 0 = some v
 f1 : fget fr 1 = some w
 f2 : fget fr 2 = some (KI lag)
 f3 : fget fr 3 = some (.bool most)
section
variable {h hh : IH} {fr : Fr} {Q : IExit → Fr → IH → Prop} {v w : Value} {n : Nat} {lag : Int} {most : Bool} {l0 : List (Nat × Nat)}
set_option maxHeartbeats 2000000 in
theorem c0 (s : CX h hh fr v w lag most) : Do (wpC Proofs.Tryz.prog 5 115 none (partC 0) fr hh) (seqK (fun fr h' => Pst (CX h h' fr v w lag most) nx) Q) nx := by
 show Do (wpC _ _ _ _ (.region _ _ _) fr hh) _ _
 simp -dsimp (disch := omega) only [wpS]
 exact ⟨s.e, by simp [s.f0], by simp [s.f1], by simp [s.f2], by simp [s.f3]⟩
set_option maxHeartbeats 2000000 in
theorem c1 (s : CX h hh fr v w lag most) : Do (wpC Proofs.Tryz.prog 5 115 none (partC 1) fr hh) (seqK (fun fr h' => Pst (CX h h' fr v w lag most) nx) Q) nx := by
 show Do (wpC _ _ _ _ (.seq _ _) fr hh) _ _
 simp -dsimp (disch := omega) only [wpS]
 refine call dgworks_ok ?_
 rintro _ h1 ⟨X1, rfl⟩
 simp -dsimp (disch := omega) only [wpS, wpT, Nat.reduceEqDiff]
 exact ⟨s.e.trans X1, by simp [s.f0], by simp [s.f1], by simp [s.f2], by simp [s.f3]⟩
set_option maxHeartbeats 2000000 in
theorem c2 (hv : ShArg h v l0) (hw : DrSl h w n) (s : CX h hh fr v w lag most) : Do (wpC Proofs.Tryz.prog 5 115 none (partC 2) fr hh) (seqK (fun fr h' => Pst (CX h h' fr v w lag most ∧ ∃ hb w1 w2 x1 x2, ShSl hb w1 x1 ∧ ShSl hb w2 x2 ∧ x1.length ≤ 3 ∧ x2.length ≤ 12 ∧ h' = hb.new (.cells [w1, w2] 1 none) ∧ fget fr 9 = some (.slice (some ⟨2 * hb.n, 0, none⟩) 2 5)) nx) Q) nx := by
 show Do (wpC _ _ _ _ (.region _ _ _) fr hh) _ _
 simp -dsimp (disch := omega) only [wpS, s.f0]
 refine call (light_ok (hv.keep s.e.keep)) ?_
 rintro w1 h1 ⟨X1, l1, s1, hl1, hn1⟩
 simp -dsimp (disch := omega) only [wpS, Nat.reduceEqDiff, s.f1]
 refine call (shorts_ok (hw.keep (s.e.trans X1).keep)) ?_
 rintro w2 h2 ⟨X2, l2, s2, hl2, hsh2, hn2⟩
 simp -dsimp (disch := omega) only [wpS, wpT, Nat.reduceEqDiff, Nat.reduceLeDiff, Nat.reduceAdd, Nat.reduceMul, bs22, s1.1.cells, s2.1.cells]
 exact ⟨⟨((s.e.trans X1).trans X2).new _, by simp [s.f0], by simp [s.f1], by simp [s.f2], by simp [s.f3]⟩, h2, w1, w2, l1, l2, s1.keep X2.keep, s2, hl1, by omega, rfl, rfl⟩
set_option maxHeartbeats 2000000 in
theorem c3 (hv : ShArg h v l0) (s : CX h hh fr v w lag most) {hb : IH} {w1 w2 : Value} {x1 x2 : List (Nat × Nat)} (s1 : ShSl hb w1 x1) (s2 : ShSl hb w2 x2) (n1 : x1.length ≤ 3) (n2 : x2.length ≤ 12) (he : hh = hb.new (.cells [w1, w2] 1 none)) (f9 : fget fr 9 = some (.slice (some ⟨2 * hb.n, 0, none⟩) 2 5)) : Do (wpC Proofs.Tryz.prog 5 115 none (partC 3) fr hh) (seqK (fun fr h' => Pst (CX h h' fr v w lag most ∧ ∃ v ll, ShLs h' v ll ∧ (∀ x ∈ ll, Fit x.length) ∧ fget fr 9 = some v) nx) Q) nx := by
 show Do (wpC _ _ _ _ (.seq _ _) fr hh) _ _
 subst he
 cases most with
 | false =>
  simp -dsimp (disch := omega) only [wpS, s.f3]
  refine ⟨⟨s.e, by simp [s.f0], by simp [s.f1], by simp [s.f2], by simp [s.f3]⟩, _, [x1, x2], shLs_two s1 s2, ?_, by simp [f9]⟩
  intro x hx
  simp at hx
  rcases hx with rfl | rfl <;> exact .inl (by omega)
 | true =>
  simp -dsimp (disch := omega) only [wpS, Nat.reduceEqDiff, s.f3, f9, s.f0]
  refine call (light_ok (hv.keep s.e.keep)) ?_
  rintro v3 h3 ⟨X3, l3, s3, hl3, hn3⟩
  simp -dsimp (disch := omega) only [wpS, Nat.reduceEqDiff]
  refine call (long_ok s3 hn3 (by omega)) ?_
  rintro v4 h4 ⟨X4, s4⟩
  have X34 := X3.trans X4
  simp -dsimp (disch := omega) only [wpS, wpT, Nat.reduceEqDiff, Nat.reduceLeDiff, Nat.reduceAdd, bs22, ba22_22, s4.1.cells, append_third s1 s2 X34 s4]
  have Y := ((Ext.refl hb).new (.cells [w1, w2] 1 none)).trans (X34.new (.cells [v4] 1 none))
  refine ⟨⟨((s.e.trans X34).new _).new _, by simp [s.f0], by simp [s.f1], by simp [s.f2], by simp [s.f3]⟩, _, [x1, x2, longL l3 true], shLs_three (s1.keep Y.keep) (s2.keep Y.keep) (s4.keep ((Ext.refl h4).new _).keep), ?_, rfl⟩
  intro x hx
  simp at hx
  rcases hx with rfl | rfl | rfl
  ·exact .inl (by omega)
  ·exact .inl (by omega)
  ·refine .inr ?_
   unfold longL longT
   rw [List.length_append, List.length_replicate]
   simp
   omega
set_option maxHeartbeats 16000000 in
theorem c4 (s : CX h hh fr v w lag most) (hs : In64 lag) {v9 : Value} {ll : List (List (Nat × Nat))} (sl : ShLs hh v9 ll) (hf : ∀ x ∈ ll, Fit x.length) (f9 : fget fr 9 = some v9) : Do (wpC Proofs.Tryz.prog 5 115 none (partC 4) fr hh) (seqK (fun fr h' => Pst (Ext h h') nx) Q) nx := by
 show Do (wpC _ _ _ _ (.seq _ _) fr hh) _ _
 simp -dsimp (maxSteps := 1000000) (disch := first | omega | (simp only [new_n, put_n]; omega) | decide +kernel | (repeat first | rw [new_n] | rw [put_n])) only [wpS, f9, sl.co.2.2]
 refine loop (fun m fr g => ∃ i : Nat, i + m = ll.length ∧ Ext hh g ∧ fget fr 2 = some (KI lag) ∧ fget fr 40 = some v9 ∧ fget fr 41 = some (KN ll.length) ∧ fget fr 42 = some (KN i)) ll.length
  ⟨0, by omega, Ext.refl _, by simp [s.f2], by simp, by simp, by simp⟩ ?_
 rintro m fr g ⟨i, him, E, f2, f40, f41, f42⟩
 simp -dsimp (maxSteps := 1000000) (disch := first | omega | (simp only [new_n, put_n]; omega) | decide +kernel | (repeat first | rw [new_n] | rw [put_n])) only [wpS, f41, f42]
 refine bq_intro ?_ ?_ <;> intro hc <;> simp only [decide_eq_true_eq, decide_eq_false_iff_not] at hc
 ·have hi : i < ll.length := by omega
  obtain ⟨x, hx⟩ : ∃ x, ll[i]? = some x := ⟨_, List.getElem?_eq_getElem hi⟩
  have fx := hf x (List.mem_of_getElem? hx)
  obtain ⟨wv, ld, sx, ix⟩ := sl.at E.keep hx
  have hlen : ll.length < 1152921504606846976 := by obtain ⟨_, _, q, _⟩ := sl; exact q
  obtain ⟨p, a, pw, hr⟩ := meanP_form x
  obtain ⟨p', a', pw', hr'⟩ := effP_form x
  have na : (a != a) = false := by simp
  have na' : (a' != a') = false := by simp
  simp -dsimp (maxSteps := 1000000) (disch := first | omega | (simp only [new_n, put_n]; omega) | decide +kernel | (repeat first | rw [new_n] | rw [put_n])) only [wpS, wpT, Nat.reduceEqDiff, f40, f42, ix, ld]
  refine call (gMean sx) ?_
  rintro _ g1 ⟨Y1, rfl⟩
  rw [hr]
  obtain ⟨G1, hG1, n1, Z1, k1⟩ := box_put g1 p
  simp -dsimp (maxSteps := 1000000) (disch := first | omega | (simp only [new_n, put_n]; omega) | decide +kernel | (repeat first | rw [new_n] | rw [put_n])) only [wpS, wpT, Nat.reduceEqDiff, Nat.reduceLeDiff, Nat.reduceAdd, zc30, st30, shV_cells, shC_len, shC_all, sh_sp3]
  rw [← hG1]
  clear hG1
  have V1 := Y1.trans Z1
  refine call (rMean (sx.keep V1.keep)) ?_
  rintro _ g2 ⟨Y2, rfl⟩
  rw [hr]
  obtain ⟨G2, hG2, n2, Z2, k2⟩ := box_put g2 p
  simp -dsimp (maxSteps := 1000000) (disch := first | omega | (simp only [new_n, put_n]; omega) | decide +kernel | (repeat first | rw [new_n] | rw [put_n])) only [wpS, wpT, Nat.reduceEqDiff, Nat.reduceLeDiff, Nat.reduceAdd, zc30, st30, shV_cells, shC_len, shC_all, sh_sp3]
  rw [← hG2]
  clear hG2
  have V2 := V1.trans (Y2.trans Z2)
  refine call (gEff (sx.keep V2.keep) fx) ?_
  rintro _ g3 ⟨Y3, rfl⟩
  rw [hr']
  obtain ⟨G3, hG3, n3, Z3, k3⟩ := box_put g3 p'
  simp -dsimp (maxSteps := 1000000) (disch := first | omega | (simp only [new_n, put_n]; omega) | decide +kernel | (repeat first | rw [new_n] | rw [put_n])) only [wpS, wpT, Nat.reduceEqDiff, Nat.reduceLeDiff, Nat.reduceAdd, zc30, st30, shV_cells, shC_len, shC_all, sh_sp3]
  rw [← hG3]
  clear hG3
  have V3 := V2.trans (Y3.trans Z3)
  refine call (rEff (sx.keep V3.keep) fx) ?_
  rintro _ g4 ⟨Y4, rfl⟩
  rw [hr']
  obtain ⟨G4, hG4, n4, Z4, k4⟩ := box_put g4 p'
  simp -dsimp (maxSteps := 1000000) (disch := first | omega | (simp only [new_n, put_n]; omega) | decide +kernel | (repeat first | rw [new_n] | rw [put_n])) only [wpS, wpT, Nat.reduceEqDiff, Nat.reduceLeDiff, Nat.reduceAdd, zc30, st30, ld30, shV_cells, shC_len, shC_all, sh_sp3]
  rw [← hG4]
  clear hG4
  have V4 := V3.trans (Y4.trans Z4)
  have y2 := Y2.trans Z2
  have y3 := Y3.trans Z3
  have y4 := Y4.trans Z4
  have m1 := Z1.n
  have q1 := ((y2.trans y3).trans y4).kept (by omega) k1
  have q2 := (y3.trans y4).kept (by omega) k2
  have q3 := y4.kept (by omega) k3
  have q4 := k4
  obtain ⟨z, hz, hrem⟩ := rem13 lag
  simp -dsimp (maxSteps := 1000000) (disch := first | omega | (simp only [new_n, put_n]; omega) | decide +kernel | (repeat first | rw [new_n] | rw [put_n])) only [wpS, wpT, Nat.reduceEqDiff, Nat.reduceLeDiff, Nat.reduceAdd, ld30, cv3_56, cv56_3, bv57, pl57_0, pl57_1, row_of q1, row_of q2, row_of q3, row_of q4, shC_len, sh_take, neq_same pw, neq_same pw', na, na', f2, hrem]
  refine loop (fun m2 fr gg => ∃ j : Nat, j + m2 = 2 ∧ Ext G4 gg ∧ fget fr 11 = some wv ∧ fget fr 89 = some (.agg #[KI lag, KI z]) ∧ fget fr 90 = some (KN j) ∧ fget fr 2 = some (KI lag) ∧ fget fr 40 = some v9 ∧ fget fr 41 = some (KN ll.length) ∧ fget fr 42 = some (KN i)) 2
   ⟨0, by omega, Ext.refl _, by simp, by simp, by simp, by simp [f2], by simp [f40], by simp [f41], by simp [f42]⟩ ?_
  rintro m2 fr2 gg ⟨j, hj2, EE, f11, f89, f90, f2, f40, f41, f42⟩
  simp -dsimp (maxSteps := 1000000) (disch := first | omega | (simp only [new_n, put_n]; omega) | decide +kernel | (repeat first | rw [new_n] | rw [put_n])) only [wpS, f90]
  refine bq_intro ?_ ?_ <;> intro hcc <;> simp only [decide_eq_true_eq, decide_eq_false_iff_not] at hcc
  ·have sw := sx.keep (V4.trans EE).keep
   have cases2 : j = 0 ∨ j = 1 := by omega
   rcases cases2 with rfl | rfl
   ·have hi0 : indexV Proofs.Tryz.prog 57 (.agg #[KI lag, KI z]) (KN 0) = some (KI lag) := by kernel_rfl
    obtain ⟨pa, b, paw, hra⟩ := autoP_form x lag
    have nb : (b != b) = false := by simp
    simp -dsimp (maxSteps := 1000000) (disch := first | omega | (simp only [new_n, put_n]; omega) | decide +kernel | (repeat first | rw [new_n] | rw [put_n])) only [wpS, wpT, Nat.reduceEqDiff, f11, f89, f90, hi0]
    refine call (gAuto sw fx lag) ?_
    rintro _ g5 ⟨Y5, rfl⟩
    rw [hra]
    obtain ⟨G5, hG5, n5, Z5, k5⟩ := box_put g5 pa
    simp -dsimp (maxSteps := 1000000) (disch := first | omega | (simp only [new_n, put_n]; omega) | decide +kernel | (repeat first | rw [new_n] | rw [put_n])) only [wpS, wpT, Nat.reduceEqDiff, Nat.reduceLeDiff, Nat.reduceAdd, zc30, st30, shV_cells, shC_len, shC_all, sh_sp3, f11]
    rw [← hG5]
    clear hG5
    have V5 := Y5.trans Z5
    refine call (rAuto (sw.keep V5.keep) fx lag) ?_
    rintro _ g6 ⟨Y6, rfl⟩
    rw [hra]
    obtain ⟨G6, hG6, n6, Z6, k6⟩ := box_put g6 pa
    simp -dsimp (maxSteps := 1000000) (disch := first | omega | (simp only [new_n, put_n]; omega) | decide +kernel | (repeat first | rw [new_n] | rw [put_n])) only [wpS, wpT, Nat.reduceEqDiff, Nat.reduceLeDiff, Nat.reduceAdd, zc30, st30, ld30, shV_cells, shC_len, shC_all, sh_sp3]
    rw [← hG6]
    clear hG6
    have y6 := Y6.trans Z6
    have q5 := y6.kept (by omega) k5
    simp -dsimp (maxSteps := 1000000) (disch := first | omega | (simp only [new_n, put_n]; omega) | decide +kernel | (repeat first | rw [new_n] | rw [put_n])) only [wpS, wpT, Nat.reduceEqDiff, Nat.reduceLeDiff, ld30, row_of q5, row_of k6, shC_len, sh_take, neq_same paw, nb, f90]
    exact ⟨1, by omega, 1, by omega, EE.trans (V5.trans y6), by simp [f11], by simp [f89], by simp, by simp [f2], by simp [f40], by simp [f41], by simp [f42]⟩
   ·have hi0 : indexV Proofs.Tryz.prog 57 (.agg #[KI lag, KI z]) (KN 1) = some (KI z) := by kernel_rfl
    obtain ⟨pa, b, paw, hra⟩ := autoP_form x z
    have nb : (b != b) = false := by simp
    simp -dsimp (maxSteps := 1000000) (disch := first | omega | (simp only [new_n, put_n]; omega) | decide +kernel | (repeat first | rw [new_n] | rw [put_n])) only [wpS, wpT, Nat.reduceEqDiff, f11, f89, f90, hi0]
    refine call (gAuto sw fx z) ?_
    rintro _ g5 ⟨Y5, rfl⟩
    rw [hra]
    obtain ⟨G5, hG5, n5, Z5, k5⟩ := box_put g5 pa
    simp -dsimp (maxSteps := 1000000) (disch := first | omega | (simp only [new_n, put_n]; omega) | decide +kernel | (repeat first | rw [new_n] | rw [put_n])) only [wpS, wpT, Nat.reduceEqDiff, Nat.reduceLeDiff, Nat.reduceAdd, zc30, st30, shV_cells, shC_len, shC_all, sh_sp3, f11]
    rw [← hG5]
    clear hG5
    have V5 := Y5.trans Z5
    refine call (rAuto (sw.keep V5.keep) fx z) ?_
    rintro _ g6 ⟨Y6, rfl⟩
    rw [hra]
    obtain ⟨G6, hG6, n6, Z6, k6⟩ := box_put g6 pa
    simp -dsimp (maxSteps := 1000000) (disch := first | omega | (simp only [new_n, put_n]; omega) | decide +kernel | (repeat first | rw [new_n] | rw [put_n])) only [wpS, wpT, Nat.reduceEqDiff, Nat.reduceLeDiff, Nat.reduceAdd, zc30, st30, ld30, shV_cells, shC_len, shC_all, sh_sp3]
    rw [← hG6]
    clear hG6
    have y6 := Y6.trans Z6
    have q5 := y6.kept (by omega) k5
    simp -dsimp (maxSteps := 1000000) (disch := first | omega | (simp only [new_n, put_n]; omega) | decide +kernel | (repeat first | rw [new_n] | rw [put_n])) only [wpS, wpT, Nat.reduceEqDiff, Nat.reduceLeDiff, ld30, row_of q5, row_of k6, shC_len, sh_take, neq_same paw, nb, f90]
    exact ⟨0, by omega, 2, by omega, EE.trans (V5.trans y6), by simp [f11], by simp [f89], by simp, by simp [f2], by simp [f40], by simp [f41], by simp [f42]⟩
  ·simp -dsimp (maxSteps := 1000000) (disch := first | omega | (simp only [new_n, put_n]; omega) | decide +kernel | (repeat first | rw [new_n] | rw [put_n])) only [wpS, wpT, Nat.reduceEqDiff, f42]
   exact ⟨m - 1, by omega, i + 1, by omega, (E.trans V4).trans EE, by simp [f2], by simp [f40], by simp [f41], by simp⟩
 ·simp -dsimp (maxSteps := 1000000) (disch := first | omega | (simp only [new_n, put_n]; omega) | decide +kernel | (repeat first | rw [new_n] | rw [put_n])) only [wpS, wpT]
  exact s.e.trans E
end
theorem chains_ideal {h : IH} {v w : Value} {n : Nat} {lag : Int} {most : Bool} {l0 : List (Nat × Nat)} (hv : ShArg h v l0) (hw : DrSl h w n) (hs : In64 lag) :
  WV Proofs.Tryz.prog (.func (.func 5) #[] #[]) [v, w, KI lag, .bool most] h fun r _ => r = .bool true := by
 refine enter (nt := 115) (rs := [.tmp 8]) Proofs.Tryz.func5 rfl rfl rfl (by simp) ?_
 rw [d_seq]; refine cut _ (c0 (h := h) (v := v) (w := w) (lag := lag) (most := most) ⟨Ext.refl _, by simp, by simp, by simp, by simp⟩) ?_; intro fr h0 s
 rw [d_seq]; refine cut _ (c1 s) ?_; clear s; intro fr h1 s
 rw [d_seq]; refine cut _ (c2 hv hw s) ?_; clear s; rintro fr h2 ⟨s, hb, w1, w2, x1, x2, s1, s2, n1, n2, he, f9⟩
 rw [d_seq]; refine cut _ (c3 hv s s1 s2 n1 n2 he f9) ?_; clear s s1 s2 he f9; rintro fr h3 ⟨s, v11, ll, sl, hf, f9⟩
 rw [d_seq]; refine cut _ (c4 s hs sl hf f9) ?_; clear s sl f9; intro fr h4 e4
 simp -dsimp (disch := omega) only [wpS]
end Go.Id

/-! DiagnoseChains: for every input the law returns true, and each argument reads as it did. Conditions: none but the row's own. -/
namespace Go.Proofs.YthbkinefgmfgeaaGreat
open Go.ChangeShapes Go.WideShapes Go.ChangeAt Go.RowKit Go.Id
set_option maxRecDepth 100000 in
theorem diagnoseChains_lifted (os : Os) (started : os.Started) (H : Type) (enc : TypeId × Value → H) :
  ReturnsInHanded {} Tryz.checked os 5 .any (Rows.diagnoseChainsSpec.pre6 enc Tryz.prog Tryz.f5 Rows.diagnoseChainsRow.domain false) (Rows.diagnoseChainsSpec.post enc Tryz.prog Tryz.f5 false true false false) := by
 refine returnsInHanded_of_change (C := Tryz.checked) Tryz.own started (by kernel_rfl) Tryz.func5
  (ChangeSpec.witness6 (enc := enc) (C := Tryz.checked) false ⟨#[], #[.slice none 0 0, .slice none 0 0, .int .i64 0, .bool false], []⟩ 8 (by kernel_rfl) (by kernel_rfl) (by kernel_rfl) (by kernel_rfl)) ?_
 intro W base args ds gs before hval0 hW hcnd _
 have hval : ∀ (j : Nat) t v, Tryz.f5.params[j]? = some t → args[j]? = some v → Value.okWide Tryz.prog W .any base t v := hval0
 have hW' := hW
 obtain ⟨p, q, hA0, hV, rfl, hfz, hnd⟩ := hW
 have hA : DataW.TrodAll enc Tryz.prog W 0 (fun _ => true) true Tryz.f5.params.toList args.toList ds p := hA0
 have hA1 := hA
 rw [Tryz.params5] at hA hval
 obtain ⟨a0, r0, d0, ds0, p0, q0, e0, rfl, rfl, t0, h0A⟩ := trodAll_cons hA
 obtain ⟨a1, r1, d1, ds1, p1, q1, rfl, rfl, rfl, t1, h1A⟩ := trodAll_cons h0A
 obtain ⟨a2, r2, d2, ds2, p2, q2, rfl, rfl, rfl, t2, h2A⟩ := trodAll_cons h1A
 obtain ⟨a3, r3, d3, ds3, p3, q3, rfl, rfl, rfl, t3, h3A⟩ := trodAll_cons h2A
 obtain ⟨rfl, rfl, rfl⟩ := trodAll_nil h3A
 obtain ⟨rfl, rfl⟩ := trodVars_none hV
 obtain rfl : args = #[a0, a1, a2, a3] := by cases args; simpa using e0
 obtain ⟨b0, n0, c0, rfl⟩ := okWide_slice u_shares (hval 0 _ _ rfl rfl)
 obtain ⟨fu0, t0⟩ := t0
 obtain ⟨v0, l0, g0, m0, s0⟩ := tell_shares (fun _ => none) t0
 cases g0
 obtain ⟨b1, n1, c1, rfl⟩ := okWide_slice u_drafts (hval 1 _ _ rfl rfl)
 obtain ⟨fu1, t1⟩ := t1
 obtain ⟨v1, l1, g1, m1, s1⟩ := tell_drafts (fun _ => none) t1
 cases g1
 obtain ⟨x2, rfl, _, _, w2⟩ := open_int u_int (hval 2 _ _ rfl rfl) t2
 have i2 : In64 x2 := wf_i64 w2
 obtain ⟨x3, rfl, _, _⟩ := open_bool u_bool (hval 3 _ _ rfl rfl) t3
 have hb := tell_ok (W := W) (G := fun _ => none) (fun b cs h => by cases h)
 refine (wv_true Tryz.sound (chains_ideal s0 s1 i2) hb (args' := #[.slice b0 n0 c0, .slice b1 n1 c1, .int .i64 x2, .bool x3]) (.cons (trV_rel m0) (.cons (trV_rel m1) (.cons (.scal rfl) (.cons (.scal rfl) (.nil _)))))).mono fun e W' ⟨he, hk⟩ => ?_
 subst he
 refine ⟨_, rfl, post_of_below (pa := p0 ++ (p1 ++ (p2 ++ (p3 ++ [])))) (pv := []) hW' (fun _ _ _ => trodAll_mk1 (shut_bool Tryz.underlying4 _)) (fun sp hs => ?_) (fun _ _ => rfl) hk⟩
 exact trodAll_stays Tryz.kids Tryz.pos hk hA1 (fun t ht => by
  rw [Tryz.params5] at ht
  simp at ht
  rcases ht with rfl | rfl | rfl | rfl <;> exact of_decide_eq_true (by kernel_rfl)) (fun x hx => hs x (by simpa using hx))
theorem diagnoseChains_row : Rows.DiagnoseChainsSaid :=
 OpenClaim.holds_of_wide 5 Tryz.f5 rfl rfl rfl rfl rfl rfl rfl ⟨rfl, rfl, rfl, rfl, rfl⟩ rfl rfl rfl rfl rfl (by kernel_rfl) Tryz.func5 (by kernel_rfl)
  (of_decide_eq_true (by kernel_rfl)) (by unfold Func.isWrapper; first | (rw [if_pos (by decide +kernel)]; kernel_rfl) | (rw [if_neg (by decide +kernel)]; exact ⟨rfl, rfl⟩))
  (fun os started H enc _ => diagnoseChains_lifted os started H enc)
#print axioms diagnoseChains_row
end Go.Proofs.YthbkinefgmfgeaaGreat
