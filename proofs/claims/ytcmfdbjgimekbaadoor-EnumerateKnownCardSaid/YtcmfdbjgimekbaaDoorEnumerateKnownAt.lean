/-
  EnumerateKnown: the law returns true, and nothing is changed. Conditions: none but the row's own (the listed tables of math/bits hold what the program's text lays into them).
-/
import Derived.Test.YtcmfdbjgimekbaaDoorEnumerateKnownAs
import Derived.Test.YtcmfdbjgimekbaaDoorEnumerateKnownAo
set_option linter.unusedVariables false
set_option linter.unusedSimpArgs false
set_option linter.defProp false
set_option linter.deprecated false
/-! The statement EnumerateKnown, on the ideal machine. -/
namespace Go.Id
open Go

set_option maxHeartbeats 8000000 in
theorem k35 {h hh : IH} {fr : Fr} {Q : IExit → Fr → IH → Prop} {x : Value} (s : KI5 h hh fr x [(28, KI 0), (26, KI 2), (24, KI 2), (22, KI 2), (20, KI 2), (18, KI 0)]) (f29 : fget fr 29 = some (KI 20)) : Do (wpC Proofs.Tryd.prog 4 295 none (partK 25) fr hh) (seqK (fun fr h' => Pst (Ext h h' ∧ fget fr 0 = some (.bool true)) nx) Q) nx := by
  show Do (wpC _ _ _ _ (.region _ _ _) fr hh) _ _
  have F18 : fget fr 18 = some (KI 0) := s.k.l (18, KI 0) (by simp)
  have F20 : fget fr 20 = some (KI 2) := s.k.l (20, KI 2) (by simp)
  have F22 : fget fr 22 = some (KI 2) := s.k.l (22, KI 2) (by simp)
  have F24 : fget fr 24 = some (KI 2) := s.k.l (24, KI 2) (by simp)
  have F26 : fget fr 26 = some (KI 2) := s.k.l (26, KI 2) (by simp)
  have F28 : fget fr 28 = some (KI 0) := s.k.l (28, KI 0) (by simp)
  have f29' : fget fr 29 = some (.int .i64 20) := f29
  simp -dsimp (maxSteps := 1000000) (disch := first | omega | (simp only [new_n, put_n]; omega) | decide +kernel | (repeat first | rw [new_n] | rw [put_n])) only [wpS, wpT, Nat.reduceEqDiff, reduceIte, Nat.reduceLT, Nat.reduceLeDiff, Nat.reduceAdd, Nat.reduceMul, Nat.reduceBEq, Int.reduceToNat, bs33, es33, ld3, bv32, pl32_0, bs44, zc59, st59, ld59, bs42, bv35, zc35, st35, fa35_0, ld33, st3, ld35, es38, ld47, ln33, ln38, s.k.f4, s.k.f11, s.k.f12, s.k.f14, F18, F20, F22, F24, F26, F28, s.f27, s.sx.len sl38, f29]
  exact ⟨s.k.x.e, rfl⟩
set_option maxHeartbeats 8000000 in
theorem k0 {hh : IH} {fr : Fr} {Q : IExit → Fr → IH → Prop}  : Do (wpC Proofs.Tryd.prog 4 295 none (partK 0) fr hh) (seqK (fun fr h' => Pst (h' = hh) nx) Q) nx := by
  show Do (wpC _ _ _ _ (.region _ _ _) fr hh) _ _
  simp -dsimp (maxSteps := 1000000) (disch := first | omega | (simp only [new_n, put_n]; omega) | decide +kernel | (repeat first | rw [new_n] | rw [put_n])) only [wpS, wpT, Nat.reduceEqDiff, reduceIte, Nat.reduceLT, Nat.reduceLeDiff, Nat.reduceAdd, Nat.reduceMul, Nat.reduceBEq, Int.reduceToNat, bs33, es33, ld3, bv32, pl32_0, bs44, zc59, st59, ld59, bs42, bv35, zc35, st35, fa35_0, ld33, st3, ld35, es38, ld47, ln33, ln38]
set_option maxHeartbeats 8000000 in
theorem k1 {hh : IH} {fr : Fr} {Q : IExit → Fr → IH → Prop} (b : BaseT hh) : Do (wpC Proofs.Tryd.prog 4 295 none (partK 1) fr hh) (seqK (fun fr h' => Pst (Ext hh h') nx) Q) nx := by
  show Do (wpC _ _ _ _ (.seq _ _) fr hh) _ _
  simp -dsimp (maxSteps := 1000000) (disch := first | omega | (simp only [new_n, put_n]; omega) | decide +kernel | (repeat first | rw [new_n] | rw [put_n])) only [wpS, wpT, Nat.reduceEqDiff, reduceIte, Nat.reduceLT, Nat.reduceLeDiff, Nat.reduceAdd, Nat.reduceMul, Nat.reduceBEq, Int.reduceToNat, bs33, es33, ld3, bv32, pl32_0, bs44, zc59, st59, ld59, bs42, bv35, zc35, st35, fa35_0, ld33, st3, ld35, es38, ld47, ln33, ln38]
  refine call (works_ok b) ?_
  rintro _ h1 ⟨e1, rfl⟩
  simp -dsimp (maxSteps := 1000000) (disch := first | omega | (simp only [new_n, put_n]; omega) | decide +kernel | (repeat first | rw [new_n] | rw [put_n])) only [wpS, wpT, Nat.reduceEqDiff, reduceIte, Nat.reduceLT, Nat.reduceLeDiff, Nat.reduceAdd, Nat.reduceMul, Nat.reduceBEq, Int.reduceToNat, bs33, es33, ld3, bv32, pl32_0, bs44, zc59, st59, ld59, bs42, bv35, zc35, st35, fa35_0, ld33, st3, ld35, es38, ld47, ln33, ln38]
  exact e1
set_option maxHeartbeats 8000000 in
theorem k3 {h hh : IH} {fr : Fr} {Q : IExit → Fr → IH → Prop} (e : Ext h hh) (b : BaseT hh) : Do (wpC Proofs.Tryd.prog 4 295 none (partK 2) fr hh) (seqK (fun fr h' => Pst (KX h h' fr) nx) Q) nx := by
  show Do (wpC _ _ _ _ (.region _ _ _) fr hh) _ _
  simp -dsimp (maxSteps := 1000000) (disch := first | omega | (simp only [new_n, put_n]; omega) | decide +kernel | (repeat first | rw [new_n] | rw [put_n])) only [wpS, wpT, Nat.reduceEqDiff, reduceIte, Nat.reduceLT, Nat.reduceLeDiff, Nat.reduceAdd, Nat.reduceMul, Nat.reduceBEq, Int.reduceToNat, bs33, es33, ld3, bv32, pl32_0, bs44, zc59, st59, ld59, bs42, bv35, zc35, st35, fa35_0, ld33, st3, ld35, es38, ld47, ln33, ln38]
  exact ⟨e, b, by simp⟩
def sd : List Nat := [1, 31, 90, 65, 15, 1]
theorem sd_at (i y : Nat) (h : sd[i]? = some y) : totalP 6 (fullE 6) (List.replicate 6 1) 0 6 (i + 1) = y := by
  refine (total6 (i + 1)).trans ?_
  rw [sd, ← totals6] at h
  match i, h with
  | 0, h => exact Option.some.inj h
  | 1, h => exact Option.some.inj h
  | 2, h => exact Option.some.inj h
  | 3, h => exact Option.some.inj h
  | 4, h => exact Option.some.inj h
  | 5, h => exact Option.some.inj h
  | i + 6, h => simp at h
set_option maxHeartbeats 8000000 in
theorem k4 {h hh : IH} {fr : Fr} {Q : IExit → Fr → IH → Prop} (s : KX h hh fr) : Do (wpC Proofs.Tryd.prog 4 295 none (partK 3) fr hh) (seqK (fun fr h' => Pst (KX h h' fr) nx) Q) nx := by
  show Do (wpC _ _ _ _ (.seq _ _) fr hh) _ _
  simp -dsimp (maxSteps := 1000000) (disch := first | omega | (simp only [new_n, put_n]; omega) | decide +kernel | (repeat first | rw [new_n] | rw [put_n])) only [wpS, wpT, Nat.reduceEqDiff, reduceIte, Nat.reduceLT, Nat.reduceLeDiff, Nat.reduceAdd, Nat.reduceMul, Nat.reduceBEq, Int.reduceToNat, bs33, es33, ld3, bv32, pl32_0, bs44, zc59, st59, ld59, bs42, bv35, zc35, st35, fa35_0, ld33, st3, ld35, es38, ld47, ln33, ln38, s.f1]
  have n1 : Ext hh (hh.new (.cells (sd.map KN) 1 none)) := (Ext.refl hh).new _
  have sx0 : SlOf (hh.new (.cells (sd.map KN) 1 none)) 1 (.slice (some ⟨2 * hh.n, 0, none⟩) 6 13) 6 (sd.map KN) := sl_block (k := hh.n) (f := none) (get_new_same _ _ rfl) (by simp only [new_n]; omega) (by decide) rfl (by decide) (by decide)
  have kx : ∀ fr3, fget fr3 1 = some (.func (.func 19) #[] #[]) → KX h (hh.new (.cells (sd.map KN) 1 none)) fr3 := fun fr3 f => s.of n1 f
  refine loop (fun m fr2 h2 => ∃ i : Nat, i + m = 6 ∧ KX h h2 fr2 ∧ SlOf h2 1 (.slice (some ⟨2 * hh.n, 0, none⟩) 6 13) 6 (sd.map KN) ∧ fget fr2 36 = some (.slice (some ⟨2 * hh.n, 0, none⟩) 6 13) ∧ fget fr2 37 = some (KI ((6 : Nat) : Int)) ∧ fget fr2 38 = some (KI i)) 6 ⟨0, rfl, kx _ (by simp [s.f1]), sx0, by simp, by simp, by simp⟩ ?_
  clear s
  rintro m fr h2 ⟨i, him, s, sx, f36, f37, f38⟩
  simp -dsimp (maxSteps := 1000000) (disch := first | omega | (simp only [new_n, put_n]; omega) | decide +kernel | (repeat first | rw [new_n] | rw [put_n])) only [wpS, wpT, Nat.reduceEqDiff, reduceIte, Nat.reduceLT, Nat.reduceLeDiff, Nat.reduceAdd, Nat.reduceMul, Nat.reduceBEq, Int.reduceToNat, bs33, es33, ld3, bv32, pl32_0, bs44, zc59, st59, ld59, bs42, bv35, zc35, st35, fa35_0, ld33, st3, ld35, es38, ld47, ln33, ln38, f36, f37, f38]
  refine bq_intro ?_ ?_ <;> intro hc <;> simp only [bne_iff_ne, beq_iff_eq, decide_eq_true_eq, decide_eq_false_iff_not, bne_eq_false_iff_eq, beq_eq_false_iff_ne, ne_eq, Bool.not_eq_true', Bool.not_eq_false', Bool.not_eq_true, Bool.not_eq_false, Decidable.not_not, Bool.not_not] at hc
  · have hi : i < 6 := by omega
    have hix := sx.idx (P := Proofs.Tryd.prog) es33 (k := .i64) (j := i) (by omega)
    have hld := sx.ld (Keep.refl _) (c := i) (by simp [sd]; omega) (P := Proofs.Tryd.prog) (t := 3) ag3
    obtain ⟨y, hy⟩ : ∃ y, sd[i]? = some y := ⟨sd[i]'(by simp [sd]; omega), List.getElem?_eq_getElem _⟩
    have hmem := List.mem_of_getElem? hy
    have hy1 : y ≤ 1000 := (show ∀ y ∈ sd, y ≤ 1000 by decide) y hmem
    have hld2 : load Proofs.Tryd.prog h2 3 (elemAddr (.slice (some ⟨2 * hh.n, 0, none⟩) 6 13) i) = some (KN y) := by rw [hld, List.getElem?_map, hy]; rfl
    have e1' : (i : Int) + 1 = ((i + 1 : Nat) : Int) := by omega
    simp -dsimp (maxSteps := 1000000) (disch := first | omega | (simp only [new_n, put_n]; omega) | decide +kernel | (repeat first | rw [new_n] | rw [put_n])) only [wpS, wpT, Nat.reduceEqDiff, reduceIte, Nat.reduceLT, Nat.reduceLeDiff, Nat.reduceAdd, Nat.reduceMul, Nat.reduceBEq, Int.reduceToNat, bs33, es33, ld3, bv32, pl32_0, bs44, zc59, st59, ld59, bs42, bv35, zc35, st35, fa35_0, ld33, st3, ld35, es38, ld47, ln33, ln38, f36, f37, f38, hix, hld2, s.f1, e1']
    refine call (full_ok 6 (by decide)) ?_
    rintro _ h3 ⟨e3, v3, rfl, g3⟩
    simp -dsimp (maxSteps := 1000000) (disch := first | omega | (simp only [new_n, put_n]; omega) | decide +kernel | (repeat first | rw [new_n] | rw [put_n])) only [wpS, wpT, Nat.reduceEqDiff, reduceIte, Nat.reduceLT, Nat.reduceLeDiff, Nat.reduceAdd, Nat.reduceMul, Nat.reduceBEq, Int.reduceToNat, bs33, es33, ld3, bv32, pl32_0, bs44, zc59, st59, ld59, bs42, bv35, zc35, st35, fa35_0, ld33, st3, ld35, es38, ld47, ln33, ln38, e1']
    refine call (ones_ok 6 0 6 ((i + 1 : Nat) : Int) (by decide)) ?_
    rintro _ h4 ⟨e4, w4, rfl, o4⟩
    simp -dsimp (maxSteps := 1000000) (disch := first | omega | (simp only [new_n, put_n]; omega) | decide +kernel | (repeat first | rw [new_n] | rw [put_n])) only [wpS, wpT, Nat.reduceEqDiff, reduceIte, Nat.reduceLT, Nat.reduceLeDiff, Nat.reduceAdd, Nat.reduceMul, Nat.reduceBEq, Int.reduceToNat, bs33, es33, ld3, bv32, pl32_0, bs44, zc59, st59, ld59, bs42, bv35, zc35, st35, fa35_0, ld33, st3, ld35, es38, ld47, ln33, ln38, e1']
    have x4 := e3.trans e4
    refine call (counts_true (s.b.ext x4) (args_full (k := i + 1) gr6 (by decide) ⟨by omega, by omega, by decide, by decide⟩ (g3.ext e4) o4 (by decide)) y (sd_at i y hy) (by omega)) ?_
    rintro _ h5 ⟨e5, rfl⟩
    have x5 := x4.trans e5
    simp -dsimp (maxSteps := 1000000) (disch := first | omega | (simp only [new_n, put_n]; omega) | decide +kernel | (repeat first | rw [new_n] | rw [put_n])) only [wpS, wpT, Nat.reduceEqDiff, reduceIte, Nat.reduceLT, Nat.reduceLeDiff, Nat.reduceAdd, Nat.reduceMul, Nat.reduceBEq, Int.reduceToNat, bs33, es33, ld3, bv32, pl32_0, bs44, zc59, st59, ld59, bs42, bv35, zc35, st35, fa35_0, ld33, st3, ld35, es38, ld47, ln33, ln38, f36, f37, f38, e1']
    exact ⟨m - 1, by omega, i + 1, by omega, s.of x5 (by simp [s.f1]), sx.ext x5, by simp [f36], by simp [f37], by simp⟩
  · simp -dsimp (maxSteps := 1000000) (disch := first | omega | (simp only [new_n, put_n]; omega) | decide +kernel | (repeat first | rw [new_n] | rw [put_n])) only [wpS, wpT, Nat.reduceEqDiff, reduceIte, Nat.reduceLT, Nat.reduceLeDiff, Nat.reduceAdd, Nat.reduceMul, Nat.reduceBEq, Int.reduceToNat, bs33, es33, ld3, bv32, pl32_0, bs44, zc59, st59, ld59, bs42, bv35, zc35, st35, fa35_0, ld33, st3, ld35, es38, ld47, ln33, ln38]
    exact s.of (Ext.refl _) (by simp [s.f1])
set_option maxHeartbeats 16000000 in
theorem known_ideal {h : IH} (hB : BaseT h) : WV Proofs.Tryd.prog (.func (.func 4) #[] #[]) [] h fun r h' => Ext h h' ∧ r = .bool true := by
  refine enter (nt := 295) (rs := [.tmp 0]) Proofs.Tryd.func4 rfl rfl rfl (by simp) ?_
  rw [d_seq]; refine cut _ k0 ?_; rintro fr h0 rfl
  rw [d_seq]; refine cut _ (k1 hB) ?_; intro fr h1 e1
  rw [d_seq]; refine cut _ (k3 e1 (hB.ext e1)) ?_; intro fr h1 s
  rw [d_seq]; refine cut _ (k4 s) ?_; clear s; intro fr h1 s
  rw [d_seq]; refine cut _ (k10 s) ?_; clear s; rintro fr h1 ⟨s, f4⟩
  rw [d_seq]; refine cut _ (k11 s f4) ?_; clear s f4; rintro fr h1 ⟨v5, s⟩
  rw [d_seq]; refine cut _ (k12 s) ?_; clear s; rintro fr h1 ⟨b, s⟩
  rw [d_seq]; refine cut _ (k13 s) ?_; clear s; rintro fr h1 ⟨s, f10⟩
  rw [d_seq]; refine cut _ (k14 s f10) ?_; clear s f10; intro fr h1 s
  rw [d_seq]; refine cut _ (k15 s) ?_; clear s; intro fr h1 s
  rw [d_seq]; refine cut _ (k16 s) ?_; clear s; intro fr h1 s
  rw [d_seq]; refine cut _ (k17 s) ?_; clear s; intro fr h1 s
  rw [d_seq]; refine cut _ (k18 s) ?_; clear s; rintro fr h1 ⟨s, b1, c1, o⟩
  rw [d_seq]; refine cut _ (k19 s o) ?_; clear s o; rintro fr h1 ⟨s, o⟩
  rw [d_seq]; refine cut _ (k20 s o) ?_; clear s o; rintro fr h1 ⟨s, o, b2, c2, p, hb, hc⟩
  rw [d_seq]; refine cut _ (k21 s p o hb hc) ?_; clear s p o; rintro fr h1 ⟨s, p, o⟩
  rw [d_seq]; refine cut _ (k22 s o p) ?_; clear s p o; intro fr h1 s
  have s := s.kh
  rw [d_seq]; refine cut _ (k23 s) ?_; clear s; intro fr h1 s
  rw [d_seq]; refine cut _ (k24 s) ?_; clear s; intro fr h1 s
  rw [d_seq]; refine cut _ (k25 s) ?_; clear s; intro fr h1 s
  rw [d_seq]; refine cut _ (k26 s) ?_; clear s; intro fr h1 s
  rw [d_seq]; refine cut _ (k27 s) ?_; clear s; intro fr h1 s
  rw [d_seq]; refine cut _ (k28 s) ?_; clear s; rintro fr h1 ⟨x, s⟩
  rw [d_seq]; refine cut _ (k29 s) ?_; clear s; rintro fr h1 ⟨s, f29⟩
  rw [d_seq]; refine cut _ (k30 s f29) ?_; clear s f29; rintro fr h1 ⟨s, f29⟩
  rw [d_seq]; refine cut _ (k35 s f29) ?_
  rintro fr h1 ⟨e, f0⟩
  simp -dsimp (maxSteps := 1000000) (disch := first | omega | (simp only [new_n, put_n]; omega) | decide +kernel | (repeat first | rw [new_n] | rw [put_n])) only [wpS, wpT, Nat.reduceEqDiff, reduceIte, Nat.reduceLT, Nat.reduceLeDiff, Nat.reduceAdd, Nat.reduceMul, Nat.reduceBEq, Int.reduceToNat, bs33, es33, ld3, bv32, pl32_0, bs44, zc59, st59, ld59, bs42, bv35, zc35, st35, fa35_0, ld33, st3, ld35, es38, ld47, ln33, ln38, f0]
  exact e
end Go.Id

/-! EnumerateKnown: the law returns true, and nothing is changed. Conditions: none but the row's own (the listed tables of math/bits hold what the program's text lays into them). -/
namespace Go.Proofs.YtcmfdbjgimekbaaDoor
open Go.ChangeShapes Go.WideShapes Go.ChangeAt Go.RowKit Go.Id

theorem known_met (os : Os) (args : Array Value) : laidMetH Tryd.prog laid2 ((World.doorLaid Tryd.prog 400 os).forCall (fun _ _ => 0) ⟨#[], args, []⟩).memory := by
  rw [MakeChecks.laidMetH_plain _ _ _ (by kernel_rfl)]
  exact laidMet_of_run' 8 (by kernel_rfl) (by kernel_rfl)
theorem known_wv {h : IH} (hB : BaseT h) : WV Tryd.prog (.func (.func 4) #[] #[]) [] h fun r _ => r = .bool true :=
  (known_ideal hB).mono fun _ _ k => k.2
set_option maxRecDepth 100000 in
theorem known_lifted (os : Os) (started : os.Started) (H : Type) (enc : TypeId × Value → H) :
    ReturnsInHanded {} Tryd.checked os 4 .any (fun w args => (Rows.enumerateKnownSpec.pre enc Tryd.prog Tryd.f4 [] false w args ∧ laidMetH Tryd.prog laid2 w) ∧ sizedMet enc Tryd.prog Tryd.f4 (OpenSpec.ofChange Rows.enumerateKnownSpec) false w args)
      (Rows.enumerateKnownSpec.post enc Tryd.prog Tryd.f4 false true false false) := by
  refine returnsInHanded_of_change_and (C := Tryd.checked) (X := fun w _ => laidMetH Tryd.prog laid2 w) (fun _ _ _ hh h => h.of_heap hh) Tryd.own started (by kernel_rfl) Tryd.func4
    (ChangeSpec.witness_shaped (enc := enc) (C := Tryd.checked) (os := os) (X := fun w _ => laidMetH Tryd.prog laid2 w) false (World.doorLaid Tryd.prog 400 os) #[] 8 rfl (World.shaped_of_RefB (by kernel_rfl) (by kernel_rfl)) (by kernel_rfl) (by kernel_rfl) (by kernel_rfl) (known_met os _)) ?_
  intro W base args ds gs before hval0 hW _ _ hL _
  have hW' := hW
  obtain ⟨p, q, hA0, hV, rfl, hfz, hnd⟩ := hW
  have hA : DataW.TrodAll enc Tryd.prog W 0 (fun _ => true) true Tryd.f4.params.toList args.toList ds p := hA0
  have hA1 := hA
  rw [Tryd.params4] at hA
  obtain ⟨ha, rfl, rfl⟩ := trodAll_nil hA
  obtain rfl : args = #[] := by cases args; simpa using ha
  obtain ⟨rfl, rfl⟩ := trodVars_none hV
  have hb := base_ok (l := []) (glob_ok hL) (fun e he => by cases he)
  refine (wv_true Tryd.sound (known_wv (baseT_start [])) hb (args' := #[]) (.nil _)).mono fun e W' ⟨he, hk⟩ => ?_
  subst he
  refine ⟨_, rfl, post_of_below (pa := []) (pv := []) hW' (fun _ _ _ => trodAll_mk1 (shut_bool Tryd.underlying4 _)) (fun sp hs => ?_) (fun _ _ => rfl) hk⟩
  exact trodAll_stays Tryd.kids Tryd.pos hk hA1 (fun t ht => by rw [Tryd.params4] at ht; simp at ht) (fun x hx => by cases hx)
theorem known_row : Rows.EnumerateKnownSaid :=
  OpenClaim.holds_of_wide 4 Tryd.f4 rfl rfl rfl rfl rfl rfl rfl ⟨rfl, rfl, rfl, rfl, rfl⟩ rfl rfl rfl rfl rfl (by kernel_rfl) Tryd.func4 (by kernel_rfl)
    (of_decide_eq_true (by kernel_rfl)) (by unfold Func.isWrapper; first | (rw [if_pos (by decide +kernel)]; kernel_rfl) | (rw [if_neg (by decide +kernel)]; exact ⟨rfl, rfl⟩))
    (fun os started H enc _ => known_lifted os started H enc)
theorem known_card : Rows.EnumerateKnownCardSaid :=
  Claim7.holds_tied_plain_at .later [] [.data, .data] true (true, "f1aa8008fc7e03d867aea647d31d8d98e431bd63b20ba7b761a8056a23c69bcb") false
    known_row (fun _ h => by cases h) (by kernel_rfl) (fun _ h => by cases h) enumerateKnown_row_tie rfl ⟨rfl, rfl⟩ (by kernel_rfl) rfl
    (fun f fn hf hfn => by
      obtain rfl : f = 4 := Option.some.inj ((show Tryd.prog.funcNamed "wardmote/wardmotelaw36.EnumerateKnown" = some 4 by kernel_rfl).symm.trans hf) |>.symm
      obtain rfl : fn = Tryd.f4 := (Option.some.inj (Tryd.func4.symm.trans hfn)).symm
      exact ⟨by kernel_rfl, fun j t ht => by
        rw [Tryd.params4] at ht
        simp at ht⟩)
    (by kernel_rfl)
#print axioms known_card
end Go.Proofs.YtcmfdbjgimekbaaDoor
