/-
  DiagnoseBatches: for every input the law returns true, and each argument reads as it did. Conditions: none but the row's own.
-/
import Derived.Test.YthbkinefgmfgeaaGreatDiagnoseBatchesAq
import Derived.Test.YthbkinefgmfgeaaGreatDiagnoseBatchesAn
import Derived.Test.YthbkinefgmfgeaaGreatDiagnoseBatchesAp
set_option linter.unusedVariables false
set_option linter.unusedSimpArgs false
set_option linter.defProp false
set_option linter.deprecated false
/-! Contracts: the law's examples (works). -/
namespace Go.Id
open Go
theorem fitB : ∀ m, m ≤ 8 → ∀ n, n ≤ 12 → rfBits m n 512 < 16000000 := by decide
theorem ShLs.fit {h : IH} {v : Value} {ll : List (List (Nat × Nat))} (s : ShLs h v ll) (f : FitL ll) (e : svErr ll = 0) : SvOk ll 512 ∧ rfBits ll.length (len0 ll) 512 < 16000000 := ⟨s.sv e, fitB _ (f e).2 _ (f e).1⟩
theorem ShLs.fit' {h : IH} {v : Value} {ll : List (List (Nat × Nat))} (s : ShLs h v ll) (f : FitL ll) (e : svErr ll = 0) : SvOk ll 512 ∧ rBits ll.length (len0 ll) 512 < 16000000 := by
  obtain ⟨a, b⟩ := s.fit f e
  refine ⟨a, ?_⟩
  unfold rfBits at b
  omega
section
variable {h : IH} {v : Value} {ll : List (List (Nat × Nat))} (s : ShLs h v ll) (f : FitL ll)
include s f
theorem gWithin : WV Proofs.Tryz.prog (.func (.func 13) #[] #[]) [v] h fun r h' => Ext h h' ∧ r = withinRes ll := dgWithin_ok s (s.fit' f)
theorem gMeans : WV Proofs.Tryz.prog (.func (.func 15) #[] #[]) [v] h fun r h' => Ext h h' ∧ r = meansRes ll := dgMeans_ok s (s.fit' f)
theorem gRatio : WV Proofs.Tryz.prog (.func (.func 17) #[] #[]) [v] h fun r h' => Ext h h' ∧ r = ratioRes ll := dgRatio_ok s (s.fit' f)
end
theorem withinRes_of {ll : List (List (Nat × Nat))} {q : Rat} (h1 : svErr ll = 0) (h2 : qwithin ll = q) (h3 : QW q) : withinRes ll = .tuple #[shareV q, KI 0] := by
  unfold withinRes; rw [if_pos h1, h2, toldV_of h3]
theorem meansRes_of {ll : List (List (Nat × Nat))} {q : Rat} (h1 : svErr ll = 0) (h2 : qmeansV ll = q) (h3 : QW q) : meansRes ll = .tuple #[shareV q, KI 0] := by
  unfold meansRes; rw [if_pos h1, h2, toldV_of h3]
theorem ratioRes_of {ll : List (List (Nat × Nat))} {q : Rat} (h1 : svErr ll = 0) (h0 : qwithin ll ≠ 0) (h2 : qratioV ll = q) (h3 : QW q) : ratioRes ll = .tuple #[shareV q, KI 0] := by
  unfold ratioRes; rw [if_pos h1, if_neg h0, h2, toldV_of h3]
theorem ratioRes_no {ll : List (List (Nat × Nat))} (h1 : svErr ll = 0) (h0 : qwithin ll = 0) : ratioRes ll = errV 7 := by
  unfold ratioRes; rw [if_pos h1, if_pos h0]
theorem ratioRes_err {ll : List (List (Nat × Nat))} {e : Int} (h1 : svErr ll = e) (h0 : e ≠ 0) : ratioRes ll = errV e := by
  unfold ratioRes; rw [if_neg (by rw [h1]; exact h0), h1]
abbrev mI (xs : List Int) : List (Nat × Nat) := xs.map shI
def nthC : Code → Nat → Code
  | .seq a _, 0 => a
  | .seq _ b, n + 1 => nthC b n
  | c, _ => c
noncomputable def partW (i : Nat) : Code := nthC (Proofs.Tryz.f10.body.getD .skip) i
set_option maxHeartbeats 8000000 in
theorem w1 {hh : IH} {fr : Fr} {Q : IExit → Fr → IH → Prop} : Do (wpC Proofs.Tryz.prog 10 159 none (partW 1) fr hh) (seqK (fun fr h' => Pst (Ext hh h' ∧ fget fr 1 = some (.bool true)) nx) Q) nx := by
  show Do (wpC _ _ _ _ (.region _ _ _) fr hh) _ _
  simp -dsimp (disch := omega) only [wpS]
  refine call (isC_ok 3 1) ?_
  rintro _ h1 ⟨X1, i1, j1, rfl, c1⟩
  have E1 := X1
  simp -dsimp (disch := omega) only [wpS, wpT, Nat.reduceEqDiff, Nat.reduceLeDiff, Nat.reduceAdd, Nat.reduceMul, bs87]
  refine call (lawl_blk [1, 2, 6] (by decide +kernel) (by decide +kernel) (by decide +kernel)) ?_
  rintro v2 h2 ⟨X2, s2⟩
  have E2 := E1.trans X2
  simp -dsimp (disch := omega) only [wpS, Nat.reduceEqDiff]
  refine call (gMean s2) ?_
  rintro _ h3 ⟨X3, rfl⟩
  have E3 := E2.trans X3
  rw [meanRes_of (l := mI [1, 2, 6]) (q := ((3 : Int) : Rat)) (by decide +kernel) (by decide +kernel) (QW_of (by decide +kernel))]
  simp -dsimp (disch := omega) only [wpS, Nat.reduceEqDiff]
  refine call (isT_ok (q := ((3 : Int) : Rat)) ((c1.ext X2).ext X3) (by decide +kernel) (by decide +kernel) (by decide +kernel) (by decide +kernel)) ?_
  rintro _ h4 ⟨X4, rfl⟩
  have E4 := E3.trans X4
  simp -dsimp (disch := omega) only [wpS, wpT, Nat.reduceEqDiff]
  refine call (isC_ok 14 3) ?_
  rintro _ h5 ⟨X5, i5, j5, rfl, c5⟩
  have E5 := E4.trans X5
  simp -dsimp (disch := omega) only [wpS, wpT, Nat.reduceEqDiff, Nat.reduceLeDiff, Nat.reduceAdd, Nat.reduceMul, bs87]
  refine call (lawl_blk [1, 2, 6] (by decide +kernel) (by decide +kernel) (by decide +kernel)) ?_
  rintro v6 h6 ⟨X6, s6⟩
  have E6 := E5.trans X6
  simp -dsimp (disch := omega) only [wpS, wpT, Nat.reduceEqDiff]
  refine call (gAuto s6 (.inl (by decide +kernel)) 0) ?_
  rintro _ h7 ⟨X7, rfl⟩
  have E7 := E6.trans X7
  have r7 : autoRes (mI [1, 2, 6]) 0 = .tuple #[shareV (Rat.divInt (14) 3), KI 0] := autoRes_of (lag := 0) (by decide +kernel) (by decide +kernel) (by decide +kernel) (QW_of (by decide +kernel))
  rw [r7]
  simp -dsimp (disch := omega) only [wpS, wpT, Nat.reduceEqDiff]
  refine call (isT_ok (q := (Rat.divInt (14) 3)) ((c5.ext X6).ext X7) (by decide +kernel) (by decide +kernel) (by decide +kernel) (by decide +kernel)) ?_
  rintro _ h8 ⟨X8, rfl⟩
  have E8 := E7.trans X8
  simp -dsimp (disch := omega) only [wpS, wpT, Nat.reduceEqDiff]
  refine call (isC_ok (-1) 3) ?_
  rintro _ h9 ⟨X9, i9, j9, rfl, c9⟩
  have E9 := E8.trans X9
  simp -dsimp (disch := omega) only [wpS, wpT, Nat.reduceEqDiff, Nat.reduceLeDiff, Nat.reduceAdd, Nat.reduceMul, bs87]
  refine call (lawl_blk [1, 2, 6] (by decide +kernel) (by decide +kernel) (by decide +kernel)) ?_
  rintro v10 h10 ⟨X10, s10⟩
  have E10 := E9.trans X10
  simp -dsimp (disch := omega) only [wpS, wpT, Nat.reduceEqDiff]
  refine call (gAuto s10 (.inl (by decide +kernel)) 1) ?_
  rintro _ h11 ⟨X11, rfl⟩
  have E11 := E10.trans X11
  have r11 : autoRes (mI [1, 2, 6]) 1 = .tuple #[shareV (Rat.divInt (-1) 3), KI 0] := autoRes_of (lag := 1) (by decide +kernel) (by decide +kernel) (by decide +kernel) (QW_of (by decide +kernel))
  rw [r11]
  simp -dsimp (disch := omega) only [wpS, wpT, Nat.reduceEqDiff]
  refine call (isT_ok (q := (Rat.divInt (-1) 3)) ((c9.ext X10).ext X11) (by decide +kernel) (by decide +kernel) (by decide +kernel) (by decide +kernel)) ?_
  rintro _ h12 ⟨X12, rfl⟩
  have E12 := E11.trans X12
  simp -dsimp (disch := omega) only [wpS, wpT, Nat.reduceEqDiff]
  refine call (faC_ok 2) ?_
  rintro _ h13 ⟨X13, i13, rfl, c13⟩
  have E13 := E12.trans X13
  simp -dsimp (disch := omega) only [wpS, wpT, Nat.reduceEqDiff, Nat.reduceLeDiff, Nat.reduceAdd, Nat.reduceMul, bs87]
  refine call (lawl_blk [1, 2, 6] (by decide +kernel) (by decide +kernel) (by decide +kernel)) ?_
  rintro v14 h14 ⟨X14, s14⟩
  have E14 := E13.trans X14
  simp -dsimp (disch := omega) only [wpS, wpT, Nat.reduceEqDiff]
  refine call (gAuto s14 (.inl (by decide +kernel)) 3) ?_
  rintro _ h15 ⟨X15, rfl⟩
  have E15 := E14.trans X15
  have r15 : autoRes (mI [1, 2, 6]) 3 = errV 2 := autoRes_no (by decide +kernel) (by decide +kernel)
  rw [r15]
  simp -dsimp (disch := omega) only [wpS, wpT, Nat.reduceEqDiff]
  refine call (faT_ok ((c13.ext X14).ext X15)) ?_
  rintro _ h16 ⟨X16, rfl⟩
  have E16 := E15.trans X16
  simp -dsimp (disch := omega) only [wpS, wpT, Nat.reduceEqDiff]
  refine call (isC_ok 8 3) ?_
  rintro _ h17 ⟨X17, i17, j17, rfl, c17⟩
  have E17 := E16.trans X17
  simp -dsimp (disch := omega) only [wpS, wpT, Nat.reduceEqDiff, Nat.reduceLeDiff, Nat.reduceAdd, Nat.reduceMul, bs87]
  refine call (lawl_blk [0, 0, 1, 1] (by decide +kernel) (by decide +kernel) (by decide +kernel)) ?_
  rintro v18 h18 ⟨X18, s18⟩
  have E18 := E17.trans X18
  simp -dsimp (disch := omega) only [wpS, wpT, Nat.reduceEqDiff]
  refine call (gEff s18 (.inl (by decide +kernel))) ?_
  rintro _ h19 ⟨X19, rfl⟩
  have E19 := E18.trans X19
  have r19 : effRes (mI [0, 0, 1, 1]) = .tuple #[shareV (Rat.divInt (8) 3), KI 0] := effRes_of (by decide +kernel) (by decide +kernel) (by decide +kernel) (QW_of (by decide +kernel))
  rw [r19]
  simp -dsimp (disch := omega) only [wpS, wpT, Nat.reduceEqDiff]
  refine call (isT_ok (q := (Rat.divInt (8) 3)) ((c17.ext X18).ext X19) (by decide +kernel) (by decide +kernel) (by decide +kernel) (by decide +kernel)) ?_
  rintro _ h20 ⟨X20, rfl⟩
  have E20 := E19.trans X20
  simp -dsimp (disch := omega) only [wpS, wpT, Nat.reduceEqDiff]
  refine call (isC_ok 16 1) ?_
  rintro _ h21 ⟨X21, i21, j21, rfl, c21⟩
  have E21 := E20.trans X21
  simp -dsimp (disch := omega) only [wpS, wpT, Nat.reduceEqDiff, Nat.reduceLeDiff, Nat.reduceAdd, Nat.reduceMul, bs87]
  refine call (lawl_blk [0, 1, 0, 1] (by decide +kernel) (by decide +kernel) (by decide +kernel)) ?_
  rintro v22 h22 ⟨X22, s22⟩
  have E22 := E21.trans X22
  simp -dsimp (disch := omega) only [wpS, wpT, Nat.reduceEqDiff]
  refine call (gEff s22 (.inl (by decide +kernel))) ?_
  rintro _ h23 ⟨X23, rfl⟩
  have E23 := E22.trans X23
  have r23 : effRes (mI [0, 1, 0, 1]) = .tuple #[shareV ((16 : Int) : Rat), KI 0] := effRes_of (by decide +kernel) (by decide +kernel) (by decide +kernel) (QW_of (by decide +kernel))
  rw [r23]
  simp -dsimp (disch := omega) only [wpS, wpT, Nat.reduceEqDiff]
  refine call (isT_ok (q := ((16 : Int) : Rat)) ((c21.ext X22).ext X23) (by decide +kernel) (by decide +kernel) (by decide +kernel) (by decide +kernel)) ?_
  rintro _ h24 ⟨X24, rfl⟩
  have E24 := E23.trans X24
  simp -dsimp (disch := omega) only [wpS, wpT, Nat.reduceEqDiff]
  refine call (faC_ok 7) ?_
  rintro _ h25 ⟨X25, i25, rfl, c25⟩
  have E25 := E24.trans X25
  simp -dsimp (disch := omega) only [wpS, wpT, Nat.reduceEqDiff, Nat.reduceLeDiff, Nat.reduceAdd, Nat.reduceMul, bs87]
  refine call (lawl_blk [5, 5] (by decide +kernel) (by decide +kernel) (by decide +kernel)) ?_
  rintro v26 h26 ⟨X26, s26⟩
  have E26 := E25.trans X26
  simp -dsimp (disch := omega) only [wpS, wpT, Nat.reduceEqDiff]
  refine call (gEff s26 (.inl (by decide +kernel))) ?_
  rintro _ h27 ⟨X27, rfl⟩
  have E27 := E26.trans X27
  have r27 : effRes (mI [5, 5]) = errV 7 := effRes_no (by decide +kernel) (by decide +kernel)
  rw [r27]
  simp -dsimp (disch := omega) only [wpS, wpT, Nat.reduceEqDiff]
  refine call (faT_ok ((c25.ext X26).ext X27)) ?_
  rintro _ h28 ⟨X28, rfl⟩
  have E28 := E27.trans X28
  simp -dsimp (disch := omega) only [wpS, Nat.reduceEqDiff]
  exact ⟨E28, rfl⟩
theorem batErr_ok {l : List (Nat × Nat)} {sz : Int} (h1 : chErr l = 0) (h2 : 1 ≤ sz) (h3 : sz ≤ l.length) (h4 : ((bmeans (l.map rOf) sz.toNat).all fun q => decide (-(H8 : Int) ≤ q.num) && decide (q.num < H8) && decide ((q.den : Int) < H8)) = true) : batErr l sz = 0 := by
  unfold batErr
  rw [if_pos h1, if_pos ⟨h2, h3⟩, if_pos]
  intro q hq
  exact QW_of (List.all_eq_true.1 h4 q hq)
/-- Between the regions. -/
abbrev twoS : List (Nat × Nat) := [shq (Rat.divInt 3 2), shq (Rat.divInt 5 1)]
set_option maxHeartbeats 8000000 in
theorem w2 {hh : IH} {fr : Fr} {Q : IExit → Fr → IH → Prop} (f1 : fget fr 1 = some (.bool true)) : Do (wpC Proofs.Tryz.prog 10 159 none (partW 2) fr hh) (seqK (fun fr h' => Pst (Ext hh h' ∧ ∃ v, ShSl h' v twoS ∧ fget fr 2 = some v ∧ fget fr 3 = some (KI 0) ∧ fget fr 1 = some (.bool true)) nx) Q) nx := by
  show Do (wpC _ _ _ _ (.region _ _ _) fr hh) _ _
  simp -dsimp (disch := omega) only [wpS, wpT, Nat.reduceLeDiff, Nat.reduceAdd, Nat.reduceMul, bs87]
  refine call (lawl_blk [1, 2, 6, 4, 9] (by decide +kernel) (by decide +kernel) (by decide +kernel)) ?_
  rintro v29 h29 ⟨X29, s29⟩
  have E29 := X29
  simp -dsimp (disch := omega) only [wpS, Nat.reduceEqDiff]
  refine call (gBat s29 2) ?_
  have b30 : batErr (mI [1, 2, 6, 4, 9]) 2 = 0 := batErr_ok (by decide +kernel) (by decide +kernel) (by decide +kernel) (by decide +kernel)
  rw [b30]
  rintro _ h30 ⟨X30, v30, rfl, s30⟩
  have E30 := E29.trans X30
  rw [if_pos rfl] at s30
  have e30 : (bmeans ((mI [1, 2, 6, 4, 9]).map rOf) (2 : Int).toNat).map shOf = [shq (Rat.divInt 3 2), shq (Rat.divInt 5 1)] := by decide +kernel
  rw [e30] at s30
  simp -dsimp (disch := omega) only [wpS, Nat.reduceEqDiff]
  exact ⟨E30, v30, s30, rfl, rfl, by simp [f1]⟩
set_option maxHeartbeats 8000000 in
theorem w3 {hh : IH} {fr : Fr} {Q : IExit → Fr → IH → Prop} {v2 : Value} (f1 : fget fr 1 = some (.bool true)) (f2 : fget fr 2 = some v2) (f3 : fget fr 3 = some (KI 0)) : Do (wpC Proofs.Tryz.prog 10 159 none (partW 3) fr hh) (seqK (fun fr h' => Pst (Ext hh h' ∧ fget fr 4 = some (KI 3) ∧ fget fr 5 = some (KI 0) ∧ fget fr 1 = some (.bool true) ∧ fget fr 2 = some v2 ∧ fget fr 3 = some (KI 0)) nx) Q) nx := by
  show Do (wpC _ _ _ _ (.region _ _ _) fr hh) _ _
  simp -dsimp (disch := omega) only [wpS, wpT, Nat.reduceLeDiff, Nat.reduceAdd, Nat.reduceMul, bs87]
  refine call (lawl_blk [1, 1, 2, 2, 2, 1] (by decide +kernel) (by decide +kernel) (by decide +kernel)) ?_
  rintro v31 h31 ⟨X31, s31⟩
  have E31 := X31
  simp -dsimp (disch := omega) only [wpS, Nat.reduceEqDiff]
  refine call (dgStuck_ok s31) ?_
  rintro _ h32 ⟨X32, rfl⟩
  have E32 := E31.trans X32
  have r32 : stuckRes (mI [1, 1, 2, 2, 2, 1]) = .tuple #[KI 3, KI 0] := by kernel_rfl
  rw [r32]
  simp -dsimp (disch := omega) only [wpS, Nat.reduceEqDiff]
  exact ⟨E32, rfl, rfl, by simp [f1], by simp [f2], by simp [f3]⟩
set_option maxHeartbeats 8000000 in
theorem w4 {hh : IH} {fr : Fr} {Q : IExit → Fr → IH → Prop} {v2 : Value} (hv : ShSl hh v2 twoS) (f1 : fget fr 1 = some (.bool true)) (f2 : fget fr 2 = some v2) (f3 : fget fr 3 = some (KI 0)) (f4 : fget fr 4 = some (KI 3)) (f5 : fget fr 5 = some (KI 0)) : Do (wpC Proofs.Tryz.prog 10 159 none (partW 4) fr hh) (seqK (fun fr h' => Pst (Ext hh h' ∧ fget fr 1 = some (.bool true)) nx) Q) nx := by
  show Do (wpC _ _ _ _ (.region _ _ _) fr hh) _ _
  simp -dsimp (disch := omega) only [wpS, wpT, Nat.reduceEqDiff, f1, f2]
  refine call (lawq_ok 3 2 (by decide +kernel) (by decide +kernel) (by decide +kernel)) ?_
  rintro _ h33 ⟨X33, rfl⟩
  have E33 := X33
  simp -dsimp (disch := omega) only [wpS, wpT, Nat.reduceEqDiff]
  refine call (lawq_ok 5 1 (by decide +kernel) (by decide +kernel) (by decide +kernel)) ?_
  rintro _ h34 ⟨X34, rfl⟩
  have E34 := E33.trans X34
  simp only [shareV_shq]
  simp -dsimp (disch := omega) only [wpS, wpT, Nat.reduceEqDiff, build2]
  have s35 : ShSl (h34.new (.cells (shL twoS) 16 none)) (.slice (some ⟨2 * h34.n, 0, none⟩) 2 5) twoS := by
    refine ⟨sl_block (k := h34.n) (f := none) (get_new_same _ _ rfl) (by simp) (by decide) (by decide +kernel) (by omega) (by decide), by decide, ?_⟩
    decide +kernel
  have F35 : Ext hh (h34.new (.cells (shL twoS) 16 none)) := E34.new _
  refine call (shequal_ok (l := twoS) (l2 := twoS) (hv.keep F35.keep) s35) ?_
  rintro _ h36 ⟨X36, rfl⟩
  rw [decide_eq_true rfl]
  have E36 := F35.trans X36
  simp -dsimp (disch := omega) only [wpS, wpT, Nat.reduceEqDiff, f3, f4, f5]
  refine call (faC_ok 4) ?_
  rintro _ h37 ⟨X37, i37, rfl, c37⟩
  have E37 := E36.trans X37
  simp -dsimp (disch := omega) only [wpS, wpT, Nat.reduceEqDiff]
  refine call (gMean (l := []) ⟨SlOf.nil _ (by decide), by simp, (fun p hp => by cases hp)⟩) ?_
  rintro _ h38 ⟨X38, rfl⟩
  have E38 := E37.trans X38
  have r38 : meanRes [] = errV 4 := by unfold meanRes; rw [if_neg (by decide)]; rfl
  rw [r38]
  simp -dsimp (disch := omega) only [wpS, wpT, Nat.reduceEqDiff]
  refine call (faT_ok (c37.ext X38)) ?_
  rintro _ h39 ⟨X39, rfl⟩
  have E39 := E38.trans X39
  simp -dsimp (disch := omega) only [wpS, Nat.reduceEqDiff]
  exact ⟨E39, rfl⟩
set_option maxHeartbeats 8000000 in
theorem w5 {hh : IH} {fr : Fr} {Q : IExit → Fr → IH → Prop} (f1 : fget fr 1 = some (.bool true)) : Do (wpC Proofs.Tryz.prog 10 159 none (partW 5) fr hh) (seqK (fun fr h' => Pst (Ext hh h' ∧ ∃ v, ShLs h' v [mI [0, 2], mI [1, 5]] ∧ fget fr 6 = some v ∧ fget fr 1 = some (.bool true)) nx) Q) nx := by
  show Do (wpC _ _ _ _ (.region _ _ _) fr hh) _ _
  simp -dsimp (disch := omega) only [wpS, wpT, Nat.reduceLeDiff, Nat.reduceAdd, Nat.reduceMul, bs87]
  refine call (lawl_blk [0, 2] (by decide +kernel) (by decide +kernel) (by decide +kernel)) ?_
  rintro v40 h40 ⟨X40, s40⟩
  have E40 := X40
  simp -dsimp (disch := omega) only [wpS, wpT, Nat.reduceEqDiff, Nat.reduceLeDiff, Nat.reduceAdd, Nat.reduceMul, bs87]
  refine call (lawl_blk [1, 5] (by decide +kernel) (by decide +kernel) (by decide +kernel)) ?_
  rintro v41 h41 ⟨X41, s41⟩
  have E41 := E40.trans X41
  simp -dsimp (disch := omega) only [wpS, wpT, Nat.reduceEqDiff, Nat.reduceLeDiff, Nat.reduceAdd, Nat.reduceMul, bs22, s40.1.cells, s41.1.cells]
  exact ⟨E41.new _, _, shLs_two (s40.keep X41.keep) s41, rfl, by simp [f1]⟩
set_option maxHeartbeats 8000000 in
theorem w6 {hh : IH} {fr : Fr} {Q : IExit → Fr → IH → Prop} {v : Value} (hv : ShLs hh v [mI [0, 2], mI [1, 5]]) (f1 : fget fr 1 = some (.bool true)) (f6 : fget fr 6 = some v) : Do (wpC Proofs.Tryz.prog 10 159 none (partW 6) fr hh) (seqK (fun fr h' => Pst (Ext hh h' ∧ fget fr 0 = some (.bool true)) nx) Q) nx := by
  show Do (wpC _ _ _ _ (.region _ _ _) fr hh) _ _
  simp -dsimp (disch := omega) only [wpS, wpT, Nat.reduceEqDiff, f1]
  refine call (isC_ok 5 1) ?_
  rintro _ h42 ⟨X42, i42, j42, rfl, c42⟩
  have E42 := X42
  simp -dsimp (disch := omega) only [wpS, wpT, Nat.reduceEqDiff, f6]
  refine call (gWithin (ll := [mI [0, 2], mI [1, 5]]) (hv.ext E42) (fun _ => ⟨by decide +kernel, by decide +kernel⟩)) ?_
  rintro _ h43 ⟨X43, rfl⟩
  have E43 := E42.trans X43
  have r43 : withinRes [mI [0, 2], mI [1, 5]] = .tuple #[shareV ((5 : Int) : Rat), KI 0] := withinRes_of (by decide +kernel) (by decide +kernel) (QW_of (by decide +kernel))
  rw [r43]
  simp -dsimp (disch := omega) only [wpS, wpT, Nat.reduceEqDiff]
  refine call (isT_ok (q := ((5 : Int) : Rat)) (c42.ext X43) (by decide +kernel) (by decide +kernel) (by decide +kernel) (by decide +kernel)) ?_
  rintro _ h44 ⟨X44, rfl⟩
  have E44 := E43.trans X44
  simp -dsimp (disch := omega) only [wpS, wpT, Nat.reduceEqDiff]
  refine call (isC_ok 2 1) ?_
  rintro _ h45 ⟨X45, i45, j45, rfl, c45⟩
  have E45 := E44.trans X45
  simp -dsimp (disch := omega) only [wpS, wpT, Nat.reduceEqDiff, f6]
  refine call (gMeans (ll := [mI [0, 2], mI [1, 5]]) (hv.ext E45) (fun _ => ⟨by decide +kernel, by decide +kernel⟩)) ?_
  rintro _ h46 ⟨X46, rfl⟩
  have E46 := E45.trans X46
  have r46 : meansRes [mI [0, 2], mI [1, 5]] = .tuple #[shareV ((2 : Int) : Rat), KI 0] := meansRes_of (by decide +kernel) (by decide +kernel) (QW_of (by decide +kernel))
  rw [r46]
  simp -dsimp (disch := omega) only [wpS, wpT, Nat.reduceEqDiff]
  refine call (isT_ok (q := ((2 : Int) : Rat)) (c45.ext X46) (by decide +kernel) (by decide +kernel) (by decide +kernel) (by decide +kernel)) ?_
  rintro _ h47 ⟨X47, rfl⟩
  have E47 := E46.trans X47
  simp -dsimp (disch := omega) only [wpS, wpT, Nat.reduceEqDiff]
  refine call (isC_ok 9 10) ?_
  rintro _ h48 ⟨X48, i48, j48, rfl, c48⟩
  have E48 := E47.trans X48
  simp -dsimp (disch := omega) only [wpS, wpT, Nat.reduceEqDiff, f6]
  refine call (gRatio (ll := [mI [0, 2], mI [1, 5]]) (hv.ext E48) (fun _ => ⟨by decide +kernel, by decide +kernel⟩)) ?_
  rintro _ h49 ⟨X49, rfl⟩
  have E49 := E48.trans X49
  have r49 : ratioRes [mI [0, 2], mI [1, 5]] = .tuple #[shareV (Rat.divInt (9) 10), KI 0] := ratioRes_of (by decide +kernel) (by decide +kernel) (by decide +kernel) (QW_of (by decide +kernel))
  rw [r49]
  simp -dsimp (disch := omega) only [wpS, wpT, Nat.reduceEqDiff]
  refine call (isT_ok (q := (Rat.divInt (9) 10)) (c48.ext X49) (by decide +kernel) (by decide +kernel) (by decide +kernel) (by decide +kernel)) ?_
  rintro _ h50 ⟨X50, rfl⟩
  have E50 := E49.trans X50
  simp -dsimp (disch := omega) only [wpS, wpT, Nat.reduceEqDiff]
  refine call (faC_ok 7) ?_
  rintro _ h51 ⟨X51, i51, rfl, c51⟩
  have E51 := E50.trans X51
  simp -dsimp (disch := omega) only [wpS, wpT, Nat.reduceEqDiff, Nat.reduceLeDiff, Nat.reduceAdd, Nat.reduceMul, bs87]
  refine call (lawl_blk [1, 1] (by decide +kernel) (by decide +kernel) (by decide +kernel)) ?_
  rintro v52 h52 ⟨X52, s52⟩
  have E52 := E51.trans X52
  simp -dsimp (disch := omega) only [wpS, wpT, Nat.reduceEqDiff, Nat.reduceLeDiff, Nat.reduceAdd, Nat.reduceMul, bs87]
  refine call (lawl_blk [2, 2] (by decide +kernel) (by decide +kernel) (by decide +kernel)) ?_
  rintro v53 h53 ⟨X53, s53⟩
  have E53 := E52.trans X53
  simp -dsimp (disch := omega) only [wpS, wpT, Nat.reduceEqDiff, Nat.reduceLeDiff, Nat.reduceAdd, Nat.reduceMul, bs22, s52.1.cells, s53.1.cells]
  refine call (gRatio (ll := [mI [1, 1], mI [2, 2]]) (shLs_two (s52.keep X53.keep) s53) (fun _ => ⟨by decide +kernel, by decide +kernel⟩)) ?_
  rintro _ h54 ⟨Y54, rfl⟩
  have X54 := ((Ext.refl h53).new _).trans Y54
  have E54 := E53.trans X54
  have r54 : ratioRes [mI [1, 1], mI [2, 2]] = errV 7 := ratioRes_no (by decide +kernel) (by decide +kernel)
  rw [r54]
  simp -dsimp (disch := omega) only [wpS, wpT, Nat.reduceEqDiff]
  refine call (faT_ok (((c51.ext X52).ext X53).ext X54)) ?_
  rintro _ h55 ⟨X55, rfl⟩
  have E55 := E54.trans X55
  simp -dsimp (disch := omega) only [wpS, wpT, Nat.reduceEqDiff]
  refine call (faC_ok 5) ?_
  rintro _ h56 ⟨X56, i56, rfl, c56⟩
  have E56 := E55.trans X56
  simp -dsimp (disch := omega) only [wpS, wpT, Nat.reduceEqDiff, Nat.reduceLeDiff, Nat.reduceAdd, Nat.reduceMul, bs87]
  refine call (lawl_blk [1, 2] (by decide +kernel) (by decide +kernel) (by decide +kernel)) ?_
  rintro v57 h57 ⟨X57, s57⟩
  have E57 := E56.trans X57
  simp -dsimp (disch := omega) only [wpS, wpT, Nat.reduceEqDiff, Nat.reduceLeDiff, Nat.reduceAdd, bs22, s57.1.cells]
  refine call (gRatio (ll := [mI [1, 2]]) (shLs_one s57) (fun e => absurd e (by decide +kernel))) ?_
  rintro _ h58 ⟨Y58, rfl⟩
  have X58 := ((Ext.refl h57).new _).trans Y58
  have E58 := E57.trans X58
  have r58 : ratioRes [mI [1, 2]] = errV 5 := ratioRes_err (by decide +kernel) (by decide)
  rw [r58]
  simp -dsimp (disch := omega) only [wpS, wpT, Nat.reduceEqDiff]
  refine call (faT_ok ((c56.ext X57).ext X58)) ?_
  rintro _ h59 ⟨X59, rfl⟩
  have E59 := E58.trans X59
  simp -dsimp (disch := omega) only [wpS, Nat.reduceEqDiff]
  exact ⟨E59, rfl⟩
theorem w0 {hh : IH} {fr : Fr} {Q : IExit → Fr → IH → Prop} : Do (wpC Proofs.Tryz.prog 10 159 none (partW 0) fr hh) (seqK (fun fr h' => Pst (h' = hh) nx) Q) nx := by
  show Do (wpC _ _ _ _ (.region _ _ _) fr hh) _ _
  simp -dsimp (disch := omega) only [wpS]
theorem dgworks_ok {h : IH} : WV Proofs.Tryz.prog (.func (.func 10) #[] #[]) [] h fun r h' => Ext h h' ∧ r = .bool true := by
  refine enter (nt := 159) (rs := [.tmp 0]) Proofs.Tryz.func10 rfl rfl rfl (by simp) ?_
  rw [d_seq]; refine cut _ w0 ?_; rintro fr h0 rfl
  rw [d_seq]; refine cut _ w1 ?_; rintro fr h1 ⟨x1, f1⟩
  rw [d_seq]; refine cut _ (w2 f1) ?_; clear f1; rintro fr h2 ⟨x2, v, s2, f2, f3, f1⟩
  rw [d_seq]; refine cut _ (w3 f1 f2 f3) ?_; clear f1 f2 f3; rintro fr h3 ⟨x3, f4, f5, f1, f2, f3⟩
  rw [d_seq]; refine cut _ (w4 (s2.keep x3.keep) f1 f2 f3 f4 f5) ?_; clear f1 f2 f3 f4 f5; rintro fr h4 ⟨x4, f1⟩
  rw [d_seq]; refine cut _ (w5 f1) ?_; clear f1; rintro fr h5 ⟨x5, v6, s6, f6, f1⟩
  rw [d_seq]; refine cut _ (w6 s6 f1 f6) ?_; clear f1 f6; rintro fr h6 ⟨x6, f0⟩
  simp -dsimp (disch := omega) only [wpS, wpT, f0]
  exact ((((x1.trans x2).trans x3).trans x4).trans x5).trans x6
end Go.Id

/-! Weakest preconditions over the ideal machine: appends to slices without room; lengths and parts of slices in regions whose order is open. -/
namespace Go.Id
open Go
/-- An append to a slice without room. -/
theorem append_full {P : Program} {t : TypeId} {sz bytes : Nat} (hT : appT P t = some (sz, bytes)) {h : IH} {b o n : Nat} {cs : List Value} (sv : SlNow h sz (.slice (some ⟨b, o, none⟩) n (2 * n + 1)) n cs) {x : Value} {m : Nat} {new : List Value} (sx : SlNow h sz x m new) (hm : 0 < m) (hn : 0 < n) (hc : new.all cellOK = true) (hsz : (n + m) * (bytes + 1) ≤ 1099511627776) :
    append P h t (.slice (some ⟨b, o, none⟩) n (2 * n + 1)) x = some (.slice (some ⟨2 * h.n, 0, none⟩) (n + m) (2 * (n + m)), h.new (.cells (cs ++ new) sz none)) := by
  unfold appT at hT
  split at hT
  case h_2 => cases hT
  rename_i e hu
  split at hT
  case h_2 => cases hT
  rename_i zs h1 h2 h3
  simp only [cond_eq_ite] at hT
  split at hT
  case isTrue => cases hT
  rename_i hbad
  cases hT
  have hbad' : (sz == 0 || (!(Nat.ble bytes 65536) || !(zs.length == sz))) = false := by simpa using hbad
  have first : ∀ {y : Value} {k : Nat} {l : List Value}, 0 < k → SlNow h sz y k l → firstOf h sz k y = some l ∧ lenOf y = some k := by
    intro y k l hk s
    obtain ⟨hz, hl, ⟨rfl, rfl⟩ | ⟨b2, o2, k2, rfl, rfl | ⟨row, a1, a2, a3⟩⟩⟩ := s
    · omega
    · omega
    have hms : ¬ k * sz = 0 := by
      have : 0 < k * sz := Nat.mul_pos hk hz
      omega
    refine ⟨?_, rfl⟩
    simp only [firstOf, cond_eq_ite, Nat.ble_eq, Nat.le_refl, if_true, beq_iff_eq, if_neg hms]
    rw [rd_of a1, if_pos a3, a2]
  have hmne : (m == 0) = false := by simp; omega
  obtain ⟨hfx, hlx⟩ := first hm sx
  obtain ⟨hfv, _⟩ := first hn sv
  have hble : Nat.ble ((n + m) * (bytes + 1)) sizeMost = true := by rw [Nat.ble_eq]; exact hsz
  have hcap : Nat.ble (n + m) ((2 * n + 1) / 2) = false := by
    rw [Bool.eq_false_iff]; intro hh; rw [Nat.ble_eq] at hh; omega
  have hodd : ((2 * n + 1) % 2 == 1) = true := by simp
  simp only [Id.append, hu, h1, h2, h3, hlx, hmne, hbad', hfx, hc, hble, hcap, hodd, hfv, cond_true, cond_false, Bool.not_true]
theorem steady_len {P : Program} {fr : Fr} {c : Call} {h h' : IH} {v r : Value} {t : TypeId} (hc : c.callee = .builtin .len) (ha : opds fr c.args.toList = some [v]) (ht : c.argTypes[0]? = some t) (h1 : lenB P h t v = some r) (h2 : lenB P h' t v = some r) : steadyAt P fr (.call c) h h' = true :=
  steadyAt_of (v := r) (x := h) (y := h') (by simp [iop, hc, ha, builtin, ht, h1]) (by simp [iop, hc, ha, builtin, ht, h2])
theorem steady_slice {P : Program} {fr : Fr} {t : TypeId} {x : Operand} {lo hi : Option Operand} {h h' : IH} {xv r : Value} {lov hiv : Option Value} (hx : opd fr x = some xv) (hl : optOpd fr lo = some lov) (hh : optOpd fr hi = some hiv) (h1 : sliceOp P h t xv lov hiv none = some r) (h2 : sliceOp P h' t xv lov hiv none = some r) : steadyAt P fr (.slice t x lo hi none) h h' = true := by
  have h0 : optOpd fr none = some none := rfl
  exact steadyAt_of (v := r) (x := h) (y := h') (by simp only [iop, hx, hl, hh, h0, h1, Option.map_some]) (by simp only [iop, hx, hl, hh, h0, h2, Option.map_some])
/-- A part of a slice is the same part later. -/
theorem SlOf.slice_same {h h1 h2 : IH} {sz : Nat} {v : Value} {n : Nat} {cs : List Value} (s : SlOf h sz v n cs) (k1 : Keep h h1) (k2 : Keep h h2) {P : Program} {t e : TypeId} (hu : P.underlying t = some (.slice e)) (hT : sizeT P e = some sz) {lo hi mx : Option Value} : sliceOp P h1 t v lo hi mx = sliceOp P h2 t v lo hi mx := by
  simp only [sliceOp, hu, hT]
  obtain ⟨hz, hl, ⟨rfl, rfl⟩ | ⟨b, o, k, rfl, ⟨rfl, rfl⟩ | ⟨a1, a2, row, a3, h3, h4⟩⟩⟩ := s
  · rfl
  · simp [resliced]
  · rcases a3 with a3 | ⟨a4, a5, f, a6⟩
    · simp [resliced, a3.2]
    · obtain ⟨f1, g1⟩ := k1.get (b / 2) row sz f (by omega) a6 (by omega)
      obtain ⟨f2, g2⟩ := k2.get (b / 2) row sz f (by omega) a6 (by omega)
      have r1 : roomy h1 sz (.slice (some ⟨b, o, none⟩) n k) = true := by simp [roomy, a4, g1]
      have r2 : roomy h2 sz (.slice (some ⟨b, o, none⟩) n k) = true := by simp [roomy, a4, g2]
      rw [r1, r2]
end Go.Id

/-! The statement DiagnoseBatches, on the ideal machine. -/
namespace Go.Id
open Go
noncomputable def partB (i : Nat) : Code := nthC (Proofs.Tryz.f6.body.getD .skip) i
/-- Between the regions. -/
structure BX (h hh : IH) (fr : Fr) (w : Value) (size : Int) (most more : Bool) : Prop where
  e : Ext h hh
  f1 : fget fr 1 = some w
  f2 : fget fr 2 = some (KI size)
  f3 : fget fr 3 = some (.bool most)
  f4 : fget fr 4 = some (.bool more)
/-- Lists of lists one after the other. -/
theorem ShLs.mk {h : IH} {v : Value} {ll : List (List (Nat × Nat))} (vs : List Value) (s : SlOf h 1 v ll.length vs) (hl : ll.length < 1000) (k : ∀ (i : Nat) (x : List (Nat × Nat)), ll[i]? = some x → ∃ w, vs[i]? = some w ∧ ShSl h w x) : ShLs h v ll := ⟨vs, s, by omega, k⟩
theorem shLs_three {h : IH} {w1 w2 w3 : Value} {x1 x2 x3 : List (Nat × Nat)} (s1 : ShSl h w1 x1) (s2 : ShSl h w2 x2) (s3 : ShSl h w3 x3) : ShLs (h.new (.cells [w1, w2, w3] 1 none)) (.slice (some ⟨2 * h.n, 0, none⟩) 3 6) [x1, x2, x3] := by
  have E : Ext h (h.new (.cells [w1, w2, w3] 1 none)) := (Ext.refl h).new _
  refine .mk [w1, w2, w3] (sl_block (k := h.n) (f := none) (get_new_same _ _ rfl) (by simp) (by decide) (by simp) (by omega) (by simp)) (by simp) ?_
  intro i x hx
  match i, hx with
  | 0, hx => simp at hx; subst hx; exact ⟨w1, rfl, s1.keep E.keep⟩
  | 1, hx => simp at hx; subst hx; exact ⟨w2, rfl, s2.keep E.keep⟩
  | 2, hx => simp at hx; subst hx; exact ⟨w3, rfl, s3.keep E.keep⟩
  | i + 3, hx => simp at hx
/-- The append of a third list. -/
theorem append_third {h0 h : IH} {w1 w2 w3 : Value} {x1 x2 x3 : List (Nat × Nat)} (s1 : ShSl h0 w1 x1) (s2 : ShSl h0 w2 x2) (E : Ext (h0.new (.cells [w1, w2] 1 none)) h) (s3 : ShSl h w3 x3) :
    append Proofs.Tryz.prog (h.new (.cells [w3] 1 none)) 22 (.slice (some ⟨2 * h0.n, 0, none⟩) 2 5) (.slice (some ⟨2 * h.n, 0, none⟩) 1 3) = some (.slice (some ⟨2 * (h.n + 1), 0, none⟩) 3 6, (h.new (.cells [w3] 1 none)).new (.cells [w1, w2, w3] 1 none)) := by
  have e1 : Ext h (h.new (.cells [w3] 1 none)) := (Ext.refl h).new _
  have a : SlOf (h0.new (.cells [w1, w2] 1 none)) 1 (.slice (some ⟨2 * h0.n, 0, none⟩) 2 5) 2 [w1, w2] := sl_block (k := h0.n) (f := none) (get_new_same _ _ rfl) (by simp) (by decide) (by simp) (by omega) (by omega)
  have b : SlOf (h.new (.cells [w3] 1 none)) 1 (.slice (some ⟨2 * h.n, 0, none⟩) 1 3) 1 [w3] := sl_block (k := h.n) (f := none) (get_new_same _ _ rfl) (by simp) (by decide) (by simp) (by omega) (by omega)
  exact append_full ap22 ((a.ext E).ext e1).now b.now (by omega) (by omega) (by simp [s3.1.cok]) (by omega)
section
variable {h hh : IH} {fr : Fr} {Q : IExit → Fr → IH → Prop} {v w : Value} {n : Nat} {size : Int} {most more : Bool} {l0 : List (Nat × Nat)}
theorem b0 (s : BX h hh fr w size most more) (f0 : fget fr 0 = some v) : Do (wpC Proofs.Tryz.prog 6 99 none (partB 0) fr hh) (seqK (fun fr h' => Pst (BX h h' fr w size most more ∧ fget fr 0 = some v) nx) Q) nx := by
  show Do (wpC _ _ _ _ (.region _ _ _) fr hh) _ _
  simp -dsimp (disch := omega) only [wpS]
  exact ⟨⟨s.e, by simp [s.f1], by simp [s.f2], by simp [s.f3], by simp [s.f4]⟩, by simp [f0]⟩
theorem b1 (s : BX h hh fr w size most more) (f0 : fget fr 0 = some v) : Do (wpC Proofs.Tryz.prog 6 99 none (partB 1) fr hh) (seqK (fun fr h' => Pst (BX h h' fr w size most more ∧ fget fr 0 = some v) nx) Q) nx := by
  show Do (wpC _ _ _ _ (.seq _ _) fr hh) _ _
  simp -dsimp (disch := omega) only [wpS]
  refine call dgworks_ok ?_
  rintro _ h1 ⟨X1, rfl⟩
  simp -dsimp (disch := omega) only [wpS, wpT, Nat.reduceEqDiff]
  exact ⟨⟨s.e.trans X1, by simp [s.f1], by simp [s.f2], by simp [s.f3], by simp [s.f4]⟩, by simp [f0]⟩
set_option maxHeartbeats 2000000 in
theorem b2 (hv : ShArg h v l0) (hw : DrSl h w n) (s : BX h hh fr w size most more) (f0 : fget fr 0 = some v) : Do (wpC Proofs.Tryz.prog 6 99 none (partB 2) fr hh) (seqK (fun fr h' => Pst (BX h h' fr w size most more ∧ ∃ hb w1 w2 x1 x2, ShSl hb w1 x1 ∧ ShSl hb w2 x2 ∧ h' = hb.new (.cells [w1, w2] 1 none) ∧ fget fr 11 = some (.slice (some ⟨2 * hb.n, 0, none⟩) 2 5)) nx) Q) nx := by
  show Do (wpC _ _ _ _ (.region _ _ _) fr hh) _ _
  obtain ⟨M, hM⟩ : ∃ M, M = min l0.length 5 := ⟨_, rfl⟩
  have hmin : (if (5 : Int) < (l0.length : Int) then (5 : Int) else (l0.length : Int)) = (M : Int) := by split <;> omega
  have hv1 := hv.keep s.e.keep
  obtain ⟨v1, e1, s1⟩ := hv1.first (Keep.refl hh) (m := M) (by omega) (by omega)
  refine drawn [(2, [9]), (4, [9])] (by kernel_rfl) (by kernel_rfl) rfl ?_
  simp -dsimp (disch := omega) only [wpS, Nat.reduceEqDiff, f0, s.f1, hv.1.len sl25, min_ii, hmin, e1]
  refine call (shorts_ok (hw.keep s.e.keep)) ?_
  rintro w2 h2 ⟨X2, l2, s2, hl2, hsh2, hn2⟩
  simp -dsimp (disch := omega) only [wpS, wpT, Nat.reduceEqDiff, Nat.reduceLeDiff, Nat.reduceAdd, Nat.reduceMul, bs22, s1.1.cells, s2.1.cells]
  have e3 := (hv1.1.slice_same (Keep.refl hh) (X2.keep.new (.cells [v1, w2] 1 none)) (P := Proofs.Tryz.prog) u25 sz30).symm.trans e1
  refine ⟨wpSteady_c2 (wpSteady_one rfl rfl rfl rfl (steady_len rfl rfl rfl (hv.1.len sl25 _) (hv.1.len sl25 _))) (wpSteady_one rfl rfl rfl rfl (steady_slice rfl rfl rfl e1 e3)), ?_⟩
  simp -dsimp (disch := omega) only [wpS, wpT, Nat.reduceAdd]
  exact ⟨⟨(s.e.trans X2).new _, by simp [s.f1], by simp [s.f2], by simp [s.f3], by simp [s.f4]⟩, h2, v1, w2, _, l2, s1.keep X2.keep, s2, rfl, rfl⟩
set_option maxHeartbeats 2000000 in
theorem b3 (hw : DrSl h w n) (s : BX h hh fr w size most more) {hb : IH} {w1 w2 : Value} {x1 x2 : List (Nat × Nat)} (s1 : ShSl hb w1 x1) (s2 : ShSl hb w2 x2) (he : hh = hb.new (.cells [w1, w2] 1 none)) (f11 : fget fr 11 = some (.slice (some ⟨2 * hb.n, 0, none⟩) 2 5)) : Do (wpC Proofs.Tryz.prog 6 99 none (partB 3) fr hh) (seqK (fun fr h' => Pst (BX h h' fr w size most more ∧ ∃ v ll, ShLs h' v ll ∧ fget fr 11 = some v) nx) Q) nx := by
  show Do (wpC _ _ _ _ (.seq _ _) fr hh) _ _
  subst he
  cases most with
  | false =>
    simp -dsimp (disch := omega) only [wpS, s.f3]
    exact ⟨⟨s.e, by simp [s.f1], by simp [s.f2], by simp [s.f3], by simp [s.f4]⟩, _, _, shLs_two s1 s2, by simp [f11]⟩
  | true =>
    simp -dsimp (disch := omega) only [wpS, Nat.reduceEqDiff, s.f3, f11, s.f1]
    refine call (shorts_ok (hw.keep s.e.keep)) ?_
    rintro v3 h3 ⟨X3, l3, s3, hl3, hsh3, hn3⟩
    simp -dsimp (disch := omega) only [wpS, Nat.reduceEqDiff, s.f4]
    refine call (long_ok s3 hn3 (by omega)) ?_
    rintro v4 h4 ⟨X4, s4⟩
    have X34 := X3.trans X4
    simp -dsimp (disch := omega) only [wpS, wpT, Nat.reduceEqDiff, Nat.reduceLeDiff, Nat.reduceAdd, bs22, ba22_22, s4.1.cells, append_third s1 s2 X34 s4]
    have Y := ((Ext.refl hb).new (.cells [w1, w2] 1 none)).trans (X34.new (.cells [v4] 1 none))
    exact ⟨⟨((s.e.trans X34).new _).new _, by simp [s.f1], by simp [s.f2], by simp [s.f3], by simp [s.f4]⟩, _, _, shLs_three (s1.keep Y.keep) (s2.keep Y.keep) (s4.keep ((Ext.refl h4).new _).keep), rfl⟩
theorem shSl_nil (h : IH) : ShSl h (.slice none 0 0) [] := ⟨SlOf.nil _ (by decide), by simp, fun p hp => by cases hp⟩
theorem stuck_form (l : List (Nat × Nat)) : ∃ a b : Int, stuckRes l = .tuple #[KI a, KI b] := by
  unfold stuckRes
  split <;> exact ⟨_, _, rfl⟩
theorem rem6 (size : Int) : ∃ z : Int, (0 ≤ z ∧ z < 6) ∧ ∀ ox oy, binop Proofs.Tryz.prog .rem 56 ox oy (.int .u64 (IntKind.u64.wrap size)) (.int .u64 6) = some (.int .u64 z) := by
  obtain ⟨y, hy⟩ := u64wrap size
  rw [hy]
  refine ⟨(y : Int).tmod 6, ?_, fun ox oy => binop_rem _ _ _ _ (by decide)⟩
  rw [Int.tmod_eq_emod_of_nonneg (by omega)]
  omega
set_option maxHeartbeats 8000000 in
theorem b4 (s : BX h hh fr w size most more) (hs : In64 size) {v11 : Value} {ll : List (List (Nat × Nat))} (sl : ShLs hh v11 ll) (f11 : fget fr 11 = some v11) : Do (wpC Proofs.Tryz.prog 6 99 none (partB 4) fr hh) (seqK (fun fr h' => Pst (Ext h h') nx) Q) nx := by
  show Do (wpC _ _ _ _ (.seq _ _) fr hh) _ _
  simp -dsimp (disch := omega) only [wpS, f11, sl.co.2.2]
  refine loop (fun m fr g => ∃ i : Nat, i + m = ll.length ∧ Ext hh g ∧ fget fr 2 = some (KI size) ∧ fget fr 42 = some v11 ∧ fget fr 43 = some (KN ll.length) ∧ fget fr 44 = some (KN i)) ll.length
    ⟨0, by omega, Ext.refl _, by simp [s.f2], by simp, by simp, by simp⟩ ?_
  rintro m fr g ⟨i, him, E, f2, f42, f43, f44⟩
  simp -dsimp (disch := omega) only [wpS, f43, f44]
  refine bq_intro ?_ ?_ <;> intro hc <;> simp only [decide_eq_true_eq, decide_eq_false_iff_not] at hc
  · have hi : i < ll.length := by omega
    obtain ⟨x, hx⟩ : ∃ x, ll[i]? = some x := ⟨_, List.getElem?_eq_getElem hi⟩
    obtain ⟨wv, ld, sx, ix⟩ := sl.at E.keep hx
    simp -dsimp (disch := omega) only [wpS, wpT, Nat.reduceEqDiff, f42, f44, ix, ld]
    obtain ⟨a, b, hr⟩ := stuck_form x
    have na : (a != a) = false := by simp
    have nb : (b != b) = false := by simp
    refine call (dgStuck_ok sx) ?_
    rintro _ g1 ⟨Y1, rfl⟩
    rw [hr]
    simp -dsimp (disch := omega) only [wpS, Nat.reduceEqDiff]
    refine call (rfStuck_ok (sx.keep Y1.keep)) ?_
    rintro _ g2 ⟨Y2, rfl⟩
    rw [hr]
    have Y12 := Y1.trans Y2
    obtain ⟨z, hz, hrem⟩ := rem6 size
    simp -dsimp (disch := omega) only [wpS, wpT, Nat.reduceEqDiff, Nat.reduceLeDiff, Nat.reduceAdd, cv3_56, cv56_3, bv57, pl57_0, pl57_1, na, nb, f2, hrem]
    have hlen : ll.length < 1152921504606846976 := by obtain ⟨_, _, q, _⟩ := sl; exact q
    refine loop (fun m2 fr gg => ∃ j : Nat, j + m2 = 2 ∧ Ext g2 gg ∧ fget fr 13 = some wv ∧ fget fr 72 = some (.agg #[KI size, KI (1 + z)]) ∧ fget fr 73 = some (KN j) ∧ fget fr 2 = some (KI size) ∧ fget fr 42 = some v11 ∧ fget fr 43 = some (KN ll.length) ∧ fget fr 44 = some (KN i)) 2
      ⟨0, by omega, Ext.refl _, by simp, by simp, by simp, by simp [f2], by simp [f42], by simp [f43], by simp [f44]⟩ ?_
    rintro m2 fr2 gg ⟨j, hj2, EE, f13, f72, f73, f2, f42, f43, f44⟩
    simp -dsimp (disch := omega) only [wpS, f73]
    refine bq_intro ?_ ?_ <;> intro hcc <;> simp only [decide_eq_true_eq, decide_eq_false_iff_not] at hcc
    · have sw := sx.keep (Y12.trans EE).keep
      have cases2 : j = 0 ∨ j = 1 := by omega
      rcases cases2 with rfl | rfl
      · have hi0 : indexV Proofs.Tryz.prog 57 (.agg #[KI size, KI (1 + z)]) (KN 0) = some (KI size) := by kernel_rfl
        simp -dsimp (disch := omega) only [wpS, wpT, Nat.reduceEqDiff, f13, f72, f73, hi0]
        refine call (gBat sw size) ?_
        rintro _ p1 ⟨Z1, t1, rfl, r1⟩
        simp -dsimp (disch := omega) only [wpS, Nat.reduceEqDiff, f13]
        refine call (rBat (sw.keep Z1.keep) size) ?_
        rintro _ p2 ⟨Z2, t2, rfl, r2⟩
        have Z12 := Z1.trans Z2
        generalize batErr x size = bb at r1 r2 ⊢
        have nbb : (bb != bb) = false := by simp
        obtain ⟨l1, q1, q2⟩ : ∃ l1, ShSl p2 t1 l1 ∧ ShSl p2 t2 l1 := by
          by_cases h0 : bb = 0
          · rw [if_pos h0] at r1 r2; exact ⟨_, r1.keep Z2.keep, r2⟩
          · rw [if_neg h0] at r1 r2; subst r1; subst r2; exact ⟨[], shSl_nil _, shSl_nil _⟩
        simp -dsimp (disch := omega) only [wpS, Nat.reduceEqDiff]
        refine call (shequal_ok q1 q2) ?_
        rintro _ p3 ⟨Z3, rfl⟩
        rw [decide_eq_true rfl]
        simp -dsimp (disch := omega) only [wpS, wpT, Nat.reduceEqDiff, nbb, f73]
        exact ⟨1, by omega, 1, by omega, (EE.trans Z12).trans Z3, by simp [f13], by simp [f72], by simp, by simp [f2], by simp [f42], by simp [f43], by simp [f44]⟩
      · have hi0 : indexV Proofs.Tryz.prog 57 (.agg #[KI size, KI (1 + z)]) (KN 1) = some (KI (1 + z)) := by kernel_rfl
        simp -dsimp (disch := omega) only [wpS, wpT, Nat.reduceEqDiff, f13, f72, f73, hi0]
        refine call (gBat sw (1 + z)) ?_
        rintro _ p1 ⟨Z1, t1, rfl, r1⟩
        simp -dsimp (disch := omega) only [wpS, Nat.reduceEqDiff, f13]
        refine call (rBat (sw.keep Z1.keep) (1 + z)) ?_
        rintro _ p2 ⟨Z2, t2, rfl, r2⟩
        have Z12 := Z1.trans Z2
        generalize batErr x (1 + z) = bb at r1 r2 ⊢
        have nbb : (bb != bb) = false := by simp
        obtain ⟨l1, q1, q2⟩ : ∃ l1, ShSl p2 t1 l1 ∧ ShSl p2 t2 l1 := by
          by_cases h0 : bb = 0
          · rw [if_pos h0] at r1 r2; exact ⟨_, r1.keep Z2.keep, r2⟩
          · rw [if_neg h0] at r1 r2; subst r1; subst r2; exact ⟨[], shSl_nil _, shSl_nil _⟩
        simp -dsimp (disch := omega) only [wpS, Nat.reduceEqDiff]
        refine call (shequal_ok q1 q2) ?_
        rintro _ p3 ⟨Z3, rfl⟩
        rw [decide_eq_true rfl]
        simp -dsimp (disch := omega) only [wpS, wpT, Nat.reduceEqDiff, nbb, f73]
        exact ⟨0, by omega, 2, by omega, (EE.trans Z12).trans Z3, by simp [f13], by simp [f72], by simp, by simp [f2], by simp [f42], by simp [f43], by simp [f44]⟩
    · simp -dsimp (disch := omega) only [wpS, wpT, Nat.reduceEqDiff, f44]
      exact ⟨m - 1, by omega, i + 1, by omega, (E.trans Y12).trans EE, by simp [f2], by simp [f42], by simp [f43], by simp⟩
  · simp -dsimp (disch := omega) only [wpS, wpT]
    exact s.e.trans E
end
theorem batches_ideal {h : IH} {v w : Value} {n : Nat} {size : Int} {most more : Bool} {l0 : List (Nat × Nat)} (hv : ShArg h v l0) (hw : DrSl h w n) (hs : In64 size) :
    WV Proofs.Tryz.prog (.func (.func 6) #[] #[]) [v, w, KI size, .bool most, .bool more] h fun r _ => r = .bool true := by
  refine enter (nt := 99) (rs := [.tmp 10]) Proofs.Tryz.func6 rfl rfl rfl (by simp) ?_
  rw [d_seq]; refine cut _ (b0 (h := h) (v := v) (w := w) (size := size) (most := most) (more := more) ⟨Ext.refl _, by simp, by simp, by simp, by simp⟩ (by simp)) ?_; rintro fr h0 ⟨s, f0⟩
  rw [d_seq]; refine cut _ (b1 s f0) ?_; clear s f0; rintro fr h1 ⟨s, f0⟩
  rw [d_seq]; refine cut _ (b2 hv hw s f0) ?_; clear s f0; rintro fr h2 ⟨s, hb, w1, w2, x1, x2, s1, s2, he, f11⟩
  rw [d_seq]; refine cut _ (b3 hw s s1 s2 he f11) ?_; clear s s1 s2 he f11; rintro fr h3 ⟨s, v11, ll, sl, f11⟩
  rw [d_seq]; refine cut _ (b4 s hs sl f11) ?_; clear s sl f11; intro fr h4 e4
  simp -dsimp (disch := omega) only [wpS]
end Go.Id

/-! DiagnoseBatches: for every input the law returns true, and each argument reads as it did. Conditions: none but the row's own. -/
namespace Go.Proofs.YthbkinefgmfgeaaGreat
open Go.ChangeShapes Go.WideShapes Go.ChangeAt Go.RowKit Go.Id
set_option maxRecDepth 100000 in
theorem diagnoseBatches_lifted (os : Os) (started : os.Started) (H : Type) (enc : TypeId × Value → H) :
    ReturnsInHanded {} Tryz.checked os 6 .any (Rows.diagnoseBatchesSpec.pre6 enc Tryz.prog Tryz.f6 Rows.diagnoseBatchesRow.domain false) (Rows.diagnoseBatchesSpec.post enc Tryz.prog Tryz.f6 false true false false) := by
  refine returnsInHanded_of_change (C := Tryz.checked) Tryz.own started (by kernel_rfl) Tryz.func6
    (ChangeSpec.witness6 (enc := enc) (C := Tryz.checked) false ⟨#[], #[.slice none 0 0, .slice none 0 0, .int .i64 0, .bool false, .bool false], []⟩ 8 (by kernel_rfl) (by kernel_rfl) (by kernel_rfl) (by kernel_rfl)) ?_
  intro W base args ds gs before hval0 hW hcnd _
  have hval : ∀ (j : Nat) t v, Tryz.f6.params[j]? = some t → args[j]? = some v → Value.okWide Tryz.prog W .any base t v := hval0
  have hW' := hW
  obtain ⟨p, q, hA0, hV, rfl, hfz, hnd⟩ := hW
  have hA : DataW.TrodAll enc Tryz.prog W 0 (fun _ => true) true Tryz.f6.params.toList args.toList ds p := hA0
  have hA1 := hA
  rw [Tryz.params6] at hA hval
  obtain ⟨a0, r0, d0, ds0, p0, q0, e0, rfl, rfl, t0, h0A⟩ := trodAll_cons hA
  obtain ⟨a1, r1, d1, ds1, p1, q1, rfl, rfl, rfl, t1, h1A⟩ := trodAll_cons h0A
  obtain ⟨a2, r2, d2, ds2, p2, q2, rfl, rfl, rfl, t2, h2A⟩ := trodAll_cons h1A
  obtain ⟨a3, r3, d3, ds3, p3, q3, rfl, rfl, rfl, t3, h3A⟩ := trodAll_cons h2A
  obtain ⟨a4, r4, d4, ds4, p4, q4, rfl, rfl, rfl, t4, h4A⟩ := trodAll_cons h3A
  obtain ⟨rfl, rfl, rfl⟩ := trodAll_nil h4A
  obtain ⟨rfl, rfl⟩ := trodVars_none hV
  obtain rfl : args = #[a0, a1, a2, a3, a4] := by cases args; simpa using e0
  obtain ⟨b0, n0, c0, rfl⟩ := okWide_slice u_shares (hval 0 _ _ rfl rfl)
  obtain ⟨fu0, t0⟩ := t0
  obtain ⟨v0, l0, g0, m0, s0⟩ := tell_shares (fun _ => none) t0
  cases g0
  obtain ⟨b1, n1, c1, rfl⟩ := okWide_slice u_drafts (hval 1 _ _ rfl rfl)
  obtain ⟨fu1, t1⟩ := t1
  obtain ⟨v1, l1, g1, m1, s1⟩ := tell_drafts (fun _ => none) t1
  cases g1
  obtain ⟨x2, rfl, _, _, w2⟩ := open_int u_int (hval 2 _ _ rfl rfl) t2
  have i2 : In64 x2 := wf_i64 w2
  obtain ⟨x3, rfl, _, _⟩ := open_bool u_bool (hval 3 _ _ rfl rfl) t3
  obtain ⟨x4, rfl, _, _⟩ := open_bool u_bool (hval 4 _ _ rfl rfl) t4
  have hb := tell_ok (W := W) (G := fun _ => none) (fun b cs h => by cases h)
  refine (wv_true Tryz.sound (batches_ideal s0 s1 i2) hb (args' := #[.slice b0 n0 c0, .slice b1 n1 c1, .int .i64 x2, .bool x3, .bool x4]) (.cons (trV_rel m0) (.cons (trV_rel m1) (.cons (.scal rfl) (.cons (.scal rfl) (.cons (.scal rfl) (.nil _))))))).mono fun e W' ⟨he, hk⟩ => ?_
  subst he
  refine ⟨_, rfl, post_of_below (pa := p0 ++ (p1 ++ (p2 ++ (p3 ++ (p4 ++ []))))) (pv := []) hW' (fun _ _ _ => trodAll_mk1 (shut_bool Tryz.underlying4 _)) (fun sp hs => ?_) (fun _ _ => rfl) hk⟩
  exact trodAll_stays Tryz.kids Tryz.pos hk hA1 (fun t ht => by
    rw [Tryz.params6] at ht
    simp at ht
    rcases ht with rfl | rfl | rfl | rfl | rfl <;> exact of_decide_eq_true (by kernel_rfl)) (fun x hx => hs x (by simpa using hx))
theorem diagnoseBatches_row : Rows.DiagnoseBatchesSaid :=
  OpenClaim.holds_of_wide 6 Tryz.f6 rfl rfl rfl rfl rfl rfl rfl ⟨rfl, rfl, rfl, rfl, rfl⟩ rfl rfl rfl rfl rfl (by kernel_rfl) Tryz.func6 (by kernel_rfl)
    (of_decide_eq_true (by kernel_rfl)) (by unfold Func.isWrapper; first | (rw [if_pos (by decide +kernel)]; kernel_rfl) | (rw [if_neg (by decide +kernel)]; exact ⟨rfl, rfl⟩))
    (fun os started H enc _ => diagnoseBatches_lifted os started H enc)
#print axioms diagnoseBatches_row
end Go.Proofs.YthbkinefgmfgeaaGreat
