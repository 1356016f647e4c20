/-
  Contracts: enumerate. The ways to divide a set. Contracts: enumerate. The ways to complete classes and to divide what is left. Counting plans: the plans by the label of the next node; the plan of a number. Counting plans: what depends on sets below 2^n alone; connected sets, computed. Contracts: enumerate. Classes in which a node has a label.
-/
import Derived.Test.YtcmfdbjgimekbaaDoorEnumeratePartsAm
import Derived.Test.YtcmfdbjgimekbaaDoorEnumeratePartsAl
import Derived.Test.YtcmfdbjgimekbaaDoorEnumeratePartsAh
set_option linter.unusedVariables false
set_option linter.unusedSimpArgs false
set_option linter.defProp false
set_option linter.deprecated false
/-! Contracts: enumerate. The ways to divide a set. -/
namespace Go.Id
open Go

def keyV (s k : Nat) : Value := .agg #[K64 s, K64 k]
/-- What was found is right. -/
def Memo (F : Nat → Bool) (l : MapL) : Prop := ∀ e ∈ l, ∃ s k, s < 18446744073709551616 ∧ k < 18446744073709551616 ∧ e = (keyV s k, KI (ways F k s))
theorem memo_keys {F : Nat → Bool} {l : MapL} (h : Memo F l) : ∀ e ∈ l, ∃ ys : List Int, ys.length = 2 ∧ e.1 = .agg (ys.map (.int .u64)).toArray := by
  intro e he
  obtain ⟨s, k, _, _, rfl⟩ := h e he
  exact ⟨[(s : Int), (k : Int)], rfl, rfl⟩
theorem asc_mem {l : MapL} {k v : Value} (h : asc l k = some v) : (k, v) ∈ l := by
  cases hp : place l k with
  | none => rw [place_none hp] at h; cases h
  | some i =>
    obtain ⟨w, h1, h2⟩ := place_some hp
    rw [h] at h2; cases h2
    exact List.mem_of_getElem? h1
theorem memo_asc {F : Nat → Bool} {l : MapL} (h : Memo F l) {s k : Nat} {v : Value} (ha : asc l (keyV s k) = some v) : v = KI (ways F k s) := by
  obtain ⟨s', k', _, _, he⟩ := h _ (asc_mem ha)
  simp only [keyV, Prod.mk.injEq, Value.agg.injEq] at he
  obtain ⟨h1, rfl⟩ := he
  simp at h1
  obtain ⟨h2, h3⟩ := h1
  have e1 : s = s' := by omega
  have e2 : k = k' := by omega
  rw [e1, e2]
theorem memo_upd {F : Nat → Bool} {l : MapL} (h : Memo F l) {s k : Nat} (hs : s < 18446744073709551616) (hk : k < 18446744073709551616) : Memo F (upd l (keyV s k) (KI (ways F k s))) := by
  intro e he
  rcases mem_upd he with rfl | he
  · exact ⟨s, k, hs, hk, rfl⟩
  · exact h e he
theorem uKey : Program.underlying Proofs.Tryd.prog 141 = some (.array 2 47) := by kernel_rfl
theorem mapT139 : MapT Proofs.Tryd.prog 139 141 (KI 0) := ⟨3, u139, by kernel_rfl, rfl⟩
set_option maxHeartbeats 4000000 in
theorem divide_ok {F : Nat → Bool} {n : Nat} (hn : n ≤ 12) {q : FP} : ∀ (k : Nat) {h : IH} (_ : k ≤ 8) (_ : FieldAt h q n F) {es : MapL} (_ : h.ext.get q.m = some (.map es)) (_ : Memo F es) (s : Nat) (_ : s < 2 ^ n),
    WV Proofs.Tryd.prog (.func (.func 85) #[] #[ptr (2 * q.c) 0, ptr (2 * q.x) 0, ptr (2 * q.d) 0]) [K64 s, KI k] h fun r h' => r = KI (ways F k s) ∧ Mem q.m h h' ∧ ∃ es', h'.ext.get q.m = some (.map es') ∧ Memo F es' := by
  intro k
  induction k with
  | zero =>
    intro h _ hf es hm hM s hs
    have mE : ∀ a b : IObj, Mem q.m h ((h.new a).new b) := fun a b => (((Ext.refl h).new a).new b).mem _
    have mg : ∀ a b : IObj, ((h.new a).new b).ext.get q.m = some (.map es) := fun a b => by
      have := hf.lm
      rw [get_new_old _ _ (by simp; omega), get_new_old _ _ (by omega), hm]
    have hp12 : 2 ^ n ≤ 2 ^ 12 := Nat.pow_le_pow_right (by omega) hn
    by_cases h0 : s = 0
    · subst h0
      refine enter (nt := 71) (rs := [.tmp 7]) Proofs.Tryd.func85 rfl rfl rfl (by simp) ?_
      simp -dsimp (maxSteps := 1000000) (disch := first | omega | (simp only [new_n, put_n]; omega) | decide +kernel | (repeat first | rw [new_n] | rw [put_n])) only [wpS, wpT, Nat.reduceEqDiff, reduceIte, Nat.reduceLT, Nat.reduceLeDiff, Nat.reduceAdd, Nat.reduceMul, Nat.reduceBEq, Int.reduceToNat, ld47, ld3, cv3_47, bv141, pl141_0, pl141_1, zc141, st141, ld139, ld141, u139, zc3, zc47, st3, st47, ld97, fa103_1, ld100, es100, ld4, ld140]
      exact ⟨rfl, mE _ _, es, mg _ _, hM⟩
    · have e1 : ((s : Int) == 0) = false := by simp; omega
      refine enter (nt := 71) (rs := [.tmp 7]) Proofs.Tryd.func85 rfl rfl rfl (by simp) ?_
      simp -dsimp (maxSteps := 1000000) (disch := first | omega | (simp only [new_n, put_n]; omega) | decide +kernel | (repeat first | rw [new_n] | rw [put_n])) only [wpS, wpT, Nat.reduceEqDiff, reduceIte, Nat.reduceLT, Nat.reduceLeDiff, Nat.reduceAdd, Nat.reduceMul, Nat.reduceBEq, Int.reduceToNat, ld47, ld3, cv3_47, bv141, pl141_0, pl141_1, zc141, st141, ld139, ld141, u139, zc3, zc47, st3, st47, ld97, fa103_1, ld100, es100, ld4, ld140, e1]
      refine ⟨?_, mE _ _, es, mg _ _, hM⟩
      rw [ways, if_neg h0]; rfl
  | succ k ih =>
    intro h hk8 hf es hm hM s hs
    have hp12 : 2 ^ n ≤ 2 ^ 12 := Nat.pow_le_pow_right (by omega) hn
    have mE : ∀ a b : IObj, Mem q.m h ((h.new a).new b) := fun a b => (((Ext.refl h).new a).new b).mem _
    have mg : ∀ a b : IObj, ((h.new a).new b).ext.get q.m = some (.map es) := fun a b => by
      have := hf.lm
      rw [get_new_old _ _ (by simp; omega), get_new_old _ _ (by omega), hm]
    by_cases h0 : s = 0
    · subst h0
      have e2 : (((k + 1 : Nat) : Int) == 0) = false := by simp; omega
      refine enter (nt := 71) (rs := [.tmp 7]) Proofs.Tryd.func85 rfl rfl rfl (by simp) ?_
      simp -dsimp (maxSteps := 1000000) (disch := first | omega | (simp only [new_n, put_n]; omega) | decide +kernel | (repeat first | rw [new_n] | rw [put_n])) only [wpS, wpT, Nat.reduceEqDiff, reduceIte, Nat.reduceLT, Nat.reduceLeDiff, Nat.reduceAdd, Nat.reduceMul, Nat.reduceBEq, Int.reduceToNat, ld47, ld3, cv3_47, bv141, pl141_0, pl141_1, zc141, st141, ld139, ld141, u139, zc3, zc47, st3, st47, ld97, fa103_1, ld100, es100, ld4, ld140, e2]
      refine ⟨?_, mE _ _, es, mg _ _, hM⟩
      rw [ways, if_pos rfl]; rfl
    · have e1 : ((s : Int) == 0) = false := by simp; omega
      have e2 : (((k + 1 : Nat) : Int) == 0) = false := by simp; omega
      have eu : IntKind.u64.wrap ((k + 1 : Nat) : Int) = ((k + 1 : Nat) : Int) := by rw [wrapU]; omega
      refine enter (nt := 71) (rs := [.tmp 7]) Proofs.Tryd.func85 rfl rfl rfl (by simp) ?_
      simp -dsimp (maxSteps := 1000000) (disch := first | omega | (simp only [new_n, put_n]; omega) | decide +kernel | (repeat first | rw [new_n] | rw [put_n])) only [wpS, wpT, Nat.reduceEqDiff, reduceIte, Nat.reduceLT, Nat.reduceLeDiff, Nat.reduceAdd, Nat.reduceMul, Nat.reduceBEq, Int.reduceToNat, ld47, ld3, cv3_47, bv141, pl141_0, pl141_1, zc141, st141, ld139, ld141, u139, zc3, zc47, st3, st47, ld97, fa103_1, ld100, es100, ld4, ld140, e1, e2, eu]
      have hlm := hf.lm
      have kE : Ext h (((h.new (.cells [.int .u64 s] 0 none)).new (.cells [.int .i64 ((k + 1 : Nat) : Int)] 0 none)).new (.cells [.int .u64 0, .int .u64 0] 0 none) |>.put (h.n + 1 + 1) (.cells [.int .u64 s, .int .u64 ((k + 1 : Nat) : Int)] 0 none)) := ((((Ext.refl h).new _).new _).new _).put (by omega) _
      have kn : (((h.new (.cells [.int .u64 s] 0 none)).new (.cells [.int .i64 ((k + 1 : Nat) : Int)] 0 none)).new (.cells [.int .u64 0, .int .u64 0] 0 none) |>.put (h.n + 1 + 1) (.cells [.int .u64 s, .int .u64 ((k + 1 : Nat) : Int)] 0 none)).n = h.n + 3 := rfl
      have k0 : (((h.new (.cells [.int .u64 s] 0 none)).new (.cells [.int .i64 ((k + 1 : Nat) : Int)] 0 none)).new (.cells [.int .u64 0, .int .u64 0] 0 none) |>.put (h.n + 1 + 1) (.cells [.int .u64 s, .int .u64 ((k + 1 : Nat) : Int)] 0 none)).ext.get h.n = some (.cells [K64 s] 0 none) := by
        rw [get_put_old _ _ (by omega), get_new_old _ _ (by simp; omega), get_new_old _ _ (by simp), get_new_same _ _ rfl]
      have k1 : (((h.new (.cells [.int .u64 s] 0 none)).new (.cells [.int .i64 ((k + 1 : Nat) : Int)] 0 none)).new (.cells [.int .u64 0, .int .u64 0] 0 none) |>.put (h.n + 1 + 1) (.cells [.int .u64 s, .int .u64 ((k + 1 : Nat) : Int)] 0 none)).ext.get (h.n + 1) = some (.cells [KI ((k + 1 : Nat) : Int)] 0 none) := by
        rw [get_put_old _ _ (by omega), get_new_old _ _ (by simp), get_new_same _ _ (by simp)]
      have k2 : (((h.new (.cells [.int .u64 s] 0 none)).new (.cells [.int .i64 ((k + 1 : Nat) : Int)] 0 none)).new (.cells [.int .u64 0, .int .u64 0] 0 none) |>.put (h.n + 1 + 1) (.cells [.int .u64 s, .int .u64 ((k + 1 : Nat) : Int)] 0 none)).ext.get (h.n + 2) = some (.cells [K64 s, K64 (k + 1)] 0 none) := get_put_same _ _ rfl
      generalize (((h.new (.cells [.int .u64 s] 0 none)).new (.cells [.int .i64 ((k + 1 : Nat) : Int)] 0 none)).new (.cells [.int .u64 0, .int .u64 0] 0 none) |>.put (h.n + 1 + 1) (.cells [.int .u64 s, .int .u64 ((k + 1 : Nat) : Int)] 0 none)) = hK at *
      have fK := hf.mem (kE.mem q.m)
      have mK : hK.ext.get q.m = some (.map es) := (kE.get _ hlm).trans hm
      have rc : hK.row (2 * q.c) = some [.map (some (2 * q.m))] := by rw [row_even]; simp only [IH.cells, fK.gc]
      have rk : hK.row (2 * (h.n + 2)) = some [K64 s, K64 (k + 1)] := by rw [row_even]; simp only [IH.cells, k2]
      have r0 : hK.row (2 * h.n) = some [K64 s] := by rw [row_even]; simp only [IH.cells, k0]
      have r1 : hK.row (2 * (h.n + 1)) = some [KI ((k + 1 : Nat) : Int)] := by rw [row_even]; simp only [IH.cells, k1]
      have hlk := lookup_eq mapT139 (keyT_arr uKey u47 sz47) mK (k := keyV s (k + 1)) ⟨[(s : Int), ((k + 1 : Nat) : Int)], rfl, rfl⟩ (memo_keys hM)
      cases hasc : asc es (keyV s (k + 1)) with
      | some v =>
        rw [hasc] at hlk
        have hv := memo_asc hM hasc
        subst hv
        have hlk' : lookup Proofs.Tryd.prog hK 139 (.map (some (2 * q.m))) (.agg #[K64 s, K64 (k + 1)]) true = some (.tuple #[KI (ways F (k + 1) s), .bool true]) := hlk
        simp -dsimp (maxSteps := 1000000) (disch := first | omega | (simp only [new_n, put_n]; omega) | decide +kernel | (repeat first | rw [new_n] | rw [put_n])) only [wpS, wpT, Nat.reduceEqDiff, reduceIte, Nat.reduceLT, Nat.reduceLeDiff, Nat.reduceAdd, Nat.reduceMul, Nat.reduceBEq, Int.reduceToNat, ld47, ld3, cv3_47, bv141, pl141_0, pl141_1, zc141, st141, ld139, ld141, u139, zc3, zc47, st3, st47, ld97, fa103_1, ld100, es100, ld4, ld140, rc, rk, List.drop_zero, take2, hlk']
        exact ⟨kE.mem _, es, mK, hM⟩
      | none =>
        rw [hasc] at hlk
        have hlk' : lookup Proofs.Tryd.prog hK 139 (.map (some (2 * q.m))) (.agg #[K64 s, K64 (k + 1)]) true = some (.tuple #[KI 0, .bool false]) := hlk
        simp -dsimp (maxSteps := 1000000) (disch := first | omega | (simp only [new_n, put_n]; omega) | decide +kernel | (repeat first | rw [new_n] | rw [put_n])) only [wpS, wpT, Nat.reduceEqDiff, reduceIte, Nat.reduceLT, Nat.reduceLeDiff, Nat.reduceAdd, Nat.reduceMul, Nat.reduceBEq, Int.reduceToNat, ld47, ld3, cv3_47, bv141, pl141_0, pl141_1, zc141, st141, ld139, ld141, u139, zc3, zc47, st3, st47, ld97, fa103_1, ld100, es100, ld4, ld140, rc, rk, List.drop_zero, take2, hlk']
        obtain ⟨a, ha⟩ := low_exists (u := s) (by omega)
        have e3 : IntKind.u64.wrap (-(s : Int)) = ((18446744073709551616 - s : Nat) : Int) := by rw [wrapU]; omega
        have e4 : s &&& (18446744073709551616 - s) = lowM s := rfl
        have e5 : lowM s = 2 ^ a := low_bit ha (by omega)
        have e6 : lowM s ≤ s := Nat.and_le_left
        refine drawn [(0, [6, 7]), (1, [6, 7])] (by kernel_rfl) (by kernel_rfl) rfl ?_
        simp -dsimp (maxSteps := 1000000) (disch := first | omega | (simp only [new_n, put_n]; omega) | decide +kernel | (repeat first | rw [new_n] | rw [put_n])) only [wpS, wpT, Nat.reduceEqDiff, reduceIte, Nat.reduceLT, Nat.reduceLeDiff, Nat.reduceAdd, Nat.reduceMul, Nat.reduceBEq, Int.reduceToNat, ld47, ld3, cv3_47, bv141, pl141_0, pl141_1, zc141, st141, ld139, ld141, u139, zc3, zc47, st3, st47, ld97, fa103_1, ld100, es100, ld4, ld140, r0, e3, e4]
        refine ⟨wpSteady_cons (wpSteady_two (wpSteady_one rfl rfl rfl rfl (steady_load (av := ptr (2 * h.n) 0) (v := K64 s) rfl ?_ ?_)) (wpSteady_one rfl rfl rfl rfl (steady_load (av := ptr (2 * h.n) 0) (v := K64 s) rfl ?_ ?_))) (wpSteady_two (wpSteady_one rfl rfl rfl rfl (steady_load (av := ptr (2 * h.n) 0) (v := K64 s) rfl ?_ ?_)) (wpSteady_one rfl rfl rfl rfl (steady_load (av := ptr (2 * h.n) 0) (v := K64 s) rfl ?_ ?_))), ?_⟩
        iterate 8
          · simp -dsimp (maxSteps := 1000000) (disch := first | omega | (simp only [new_n, put_n]; omega) | decide +kernel | (repeat first | rw [new_n] | rw [put_n])) only [wpS, wpT, Nat.reduceEqDiff, reduceIte, Nat.reduceLT, Nat.reduceLeDiff, Nat.reduceAdd, Nat.reduceMul, Nat.reduceBEq, Int.reduceToNat, ld47, ld3, cv3_47, bv141, pl141_0, pl141_1, zc141, st141, ld139, ld141, u139, zc3, zc47, st3, st47, ld97, fa103_1, ld100, es100, ld4, ld140, r0]
        simp -dsimp (maxSteps := 1000000) (disch := first | omega | (simp only [new_n, put_n]; omega) | decide +kernel | (repeat first | rw [new_n] | rw [put_n])) only [wpS, wpT, Nat.reduceEqDiff, reduceIte, Nat.reduceLT, Nat.reduceLeDiff, Nat.reduceAdd, Nat.reduceMul, Nat.reduceBEq, Int.reduceToNat, ld47, ld3, cv3_47, bv141, pl141_0, pl141_1, zc141, st141, ld139, ld141, u139, zc3, zc47, st3, st47, ld97, fa103_1, ld100, es100, ld4, ld140, r0]
        have e7 : nclr s (lowM s) < 2 ^ n := Nat.lt_of_le_of_lt (Sub.le fun j hj => by rw [testBit_nclr] at hj; simp at hj; exact hj.1) hs
        refine call (subsets_ok (nclr s (lowM s))) ?_
        rintro _ _ ⟨rfl, rfl⟩
        simp -dsimp (maxSteps := 1000000) (disch := first | omega | (simp only [new_n, put_n]; omega) | decide +kernel | (repeat first | rw [new_n] | rw [put_n])) only [wpS, wpT, Nat.reduceEqDiff, reduceIte, Nat.reduceLT, Nat.reduceLeDiff, Nat.reduceAdd, Nat.reduceMul, Nat.reduceBEq, Int.reduceToNat, ld47, ld3, cv3_47, bv141, pl141_0, pl141_1, zc141, st141, ld139, ld141, u139, zc3, zc47, st3, st47, ld97, fa103_1, ld100, es100, ld4, ld140]
        have t0 : (((((hK.new (.cells [.int .i64 0] 0 none)).new (.cells [.int .u64 0] 0 none)).put hK.n (.cells [.int .i64 0] 0 none)).put (hK.n + 1) (.cells [K64 (lowM s)] 0 none)).new (.cells [K64 (nclr s (lowM s))] 0 none)).n = hK.n + 3 := rfl
        have tE : Ext hK (((((hK.new (.cells [.int .i64 0] 0 none)).new (.cells [.int .u64 0] 0 none)).put hK.n (.cells [.int .i64 0] 0 none)).put (hK.n + 1) (.cells [K64 (lowM s)] 0 none)).new (.cells [K64 (nclr s (lowM s))] 0 none)) := (((((Ext.refl hK).new _).new _).put (Nat.le_refl _) _).put (by omega) _).new _
        have t1 : (((((hK.new (.cells [.int .i64 0] 0 none)).new (.cells [.int .u64 0] 0 none)).put hK.n (.cells [.int .i64 0] 0 none)).put (hK.n + 1) (.cells [K64 (lowM s)] 0 none)).new (.cells [K64 (nclr s (lowM s))] 0 none)).ext.get hK.n = some (.cells [KI 0] 0 none) := by
          rw [get_new_old _ _ (by simp; omega), get_put_old _ _ (by omega), get_put_same _ _ rfl]
        have t2 : (((((hK.new (.cells [.int .i64 0] 0 none)).new (.cells [.int .u64 0] 0 none)).put hK.n (.cells [.int .i64 0] 0 none)).put (hK.n + 1) (.cells [K64 (lowM s)] 0 none)).new (.cells [K64 (nclr s (lowM s))] 0 none)).ext.get (hK.n + 1) = some (.cells [K64 (lowM s)] 0 none) := by
          rw [get_new_old _ _ (by simp), get_put_same _ _ rfl]
        have t3 : (((((hK.new (.cells [.int .i64 0] 0 none)).new (.cells [.int .u64 0] 0 none)).put hK.n (.cells [.int .i64 0] 0 none)).put (hK.n + 1) (.cells [K64 (lowM s)] 0 none)).new (.cells [K64 (nclr s (lowM s))] 0 none)).ext.get (hK.n + 2) = some (.cells [K64 (nclr s (lowM s))] 0 none) := get_new_same _ _ rfl
        generalize ((((hK.new (.cells [.int .i64 0] 0 none)).new (.cells [.int .u64 0] 0 none)).put hK.n (.cells [.int .i64 0] 0 none)).put (hK.n + 1) (.cells [K64 (lowM s)] 0 none)).new (.cells [K64 (nclr s (lowM s))] 0 none) = hT at *
        refine range1 rfl rfl ?_ ?_ ?_
        · decide
        · decide
        intro rec y hy
        rw [t0] at hy ⊢
        have hways : ways F (k + 1) s = sumFrom (fun t => if F (t ||| lowM s) = true then ways F k (nclr (nclr s t) (lowM s)) else 0) (nclr s (lowM s)) (nclr s (lowM s)) := by rw [ways, if_neg h0]
        generalize hr : nclr s (lowM s) = r at *
        refine WV.mono (subsets1_ok (hK.n + 2) r (by omega) (fun t hh => t ≤ r ∧ Mem q.m hK hh ∧ hK.n + 4 ≤ hh.n ∧ hh.ext.get (hK.n + 1) = some (.cells [K64 (lowM s)] 0 none) ∧ hh.ext.get (hK.n + 2) = some (.cells [K64 r] 0 none) ∧ hh.ext.get (hK.n + 3) = some (.loop rec) ∧ (∃ es', hh.ext.get q.m = some (.map es') ∧ Memo F es') ∧
            ∃ acc : Nat, hh.ext.get hK.n = some (.cells [KI acc] 0 none) ∧ acc + sumFrom (fun t => if F (t ||| lowM s) = true then ways F k (nclr (nclr s t) (lowM s)) else 0) r t = ways F (k + 1) s)
          (fun hh => Mem q.m hK hh ∧ hK.n + 4 ≤ hh.n ∧ hh.ext.get (hK.n + 3) = some (.loop rec) ∧ (∃ es', hh.ext.get q.m = some (.map es') ∧ Memo F es') ∧ hh.ext.get hK.n = some (.cells [KI (ways F (k + 1) s)] 0 none)) ?_ ?_ ?_) ?_
        · rintro t hh ⟨j1, j2, j3, j4, j5, j6, j7, j8⟩
          rw [row_even]; simp only [IH.cells, j5]
        · have hKn := kE.n
          refine ⟨Nat.le_refl _, (tE.new _).mem _, by simp [t0], ?_, ?_, get_new_same _ _ t0.symm, ⟨es, ?_, hM⟩, 0, ?_, by rw [Nat.zero_add, hways]⟩
          · rw [get_new_old _ _ (by omega)]; exact t2
          · rw [get_new_old _ _ (by omega)]; exact t3
          · rw [get_new_old _ _ (by omega), tE.get _ (by omega)]; exact mK
          · rw [get_new_old _ _ (by omega)]; exact t1
        · rintro t hh - ⟨j1, j2, j3, j4, j5, j6, ⟨es', j7, jM⟩, acc, j8, j9⟩
          refine hy _ _ _ j6 ?_
          have hKn := kE.n
          have gE : Mem q.m hK (hh.put (hK.n + 3) (.loop (busyL rec))) := j2.put (by omega) _
          have gn : hK.n + 4 ≤ (hh.put (hK.n + 3) (.loop (busyL rec))).n := j3
          have gl : (hh.put (hK.n + 3) (.loop (busyL rec))).ext.get (hK.n + 1) = some (.cells [K64 (lowM s)] 0 none) := by rw [get_put_old _ _ (by omega)]; exact j4
          have gb : (hh.put (hK.n + 3) (.loop (busyL rec))).ext.get (hK.n + 2) = some (.cells [K64 r] 0 none) := by rw [get_put_old _ _ (by omega)]; exact j5
          have gL : (hh.put (hK.n + 3) (.loop (busyL rec))).ext.get (hK.n + 3) = some (.loop (busyL rec)) := get_put_same _ _ rfl
          have gm : (hh.put (hK.n + 3) (.loop (busyL rec))).ext.get q.m = some (.map es') := by rw [get_put_old _ _ (by omega)]; exact j7
          have ga : (hh.put (hK.n + 3) (.loop (busyL rec))).ext.get hK.n = some (.cells [KI acc] 0 none) := by rw [get_put_old _ _ (by omega)]; exact j8
          generalize hh.put (hK.n + 3) (.loop (busyL rec)) = H at *
          have fH := fK.mem gE
          have rx : H.row (2 * q.x) = some [ptr (2 * q.p) 0] := by rw [row_even]; simp only [IH.cells, fH.gx]
          simp -dsimp (maxSteps := 1000000) (disch := first | omega | (simp only [new_n, put_n]; omega) | decide +kernel | (repeat first | rw [new_n] | rw [put_n])) only [wpS, wpT, Nat.reduceEqDiff, reduceIte, Nat.reduceLT, Nat.reduceLeDiff, Nat.reduceAdd, Nat.reduceMul, Nat.reduceBEq, Int.reduceToNat, ld47, ld3, cv3_47, bv141, pl141_0, pl141_1, zc141, st141, ld139, ld141, u139, zc3, zc47, st3, st47, ld97, fa103_1, ld100, es100, ld4, ld140, rx]
          have rp : H.row (2 * q.p) = some [KI n, .slice (some ⟨2 * q.fb, 0, none⟩) (2 ^ n) (2 * 2 ^ n + 1), .func (.func 87) #[] #[ptr (2 * q.d) 0, ptr (2 * q.x) 0]] := by rw [row_even]; simp only [IH.cells, fH.gp]
          have rf : H.row (2 * q.fb) = some (fitC n F) := by rw [row_even]; simp only [IH.cells, fH.gf]
          have rl : H.row (2 * (hK.n + 1)) = some [K64 (lowM s)] := by rw [row_even]; simp only [IH.cells, gl]
          have ra : H.row (2 * hK.n) = some [KI acc] := by rw [row_even]; simp only [IH.cells, ga]
          have rd : H.row (2 * q.d) = some [.func (.func 85) #[] #[ptr (2 * q.c) 0, ptr (2 * q.x) 0, ptr (2 * q.d) 0]] := by rw [row_even]; simp only [IH.cells, fH.gd]
          have rs0 : H.row (2 * h.n) = some [K64 s] := by rw [gE.row (.inr ⟨by omega, by omega⟩)]; exact r0
          have rs1 : H.row (2 * (h.n + 1)) = some [KI ((k + 1 : Nat) : Int)] := by rw [gE.row (.inr ⟨by omega, by omega⟩)]; exact r1
          have hor : t ||| lowM s < 2 ^ n := Nat.or_lt_two_pow (by omega) (by omega)
          have gF : (fitC n F)[t ||| lowM s]? = some (.bool (F (t ||| lowM s))) := by simp [fitC, hor]
          have q0 : 0 ≤ ((2 ^ n : Nat) : Int) := Int.natCast_nonneg _
          simp -dsimp (maxSteps := 1000000) (disch := first | omega | (simp only [new_n, put_n]; omega) | decide +kernel | (repeat first | rw [new_n] | rw [put_n])) only [wpS, wpT, Nat.reduceEqDiff, reduceIte, Nat.reduceLT, Nat.reduceLeDiff, Nat.reduceAdd, Nat.reduceMul, Nat.reduceBEq, Int.reduceToNat, ld47, ld3, cv3_47, bv141, pl141_0, pl141_1, zc141, st141, ld139, ld141, u139, zc3, zc47, st3, st47, ld97, fa103_1, ld100, es100, ld4, ld140, rp, rf, rl, gF]
          have hfr := sumFrom_eq (fun t => if F (t ||| lowM s) = true then ways F k (nclr (nclr s t) (lowM s)) else 0) r t
          have fin : ∀ (h6 : IH) (acc' : Nat), Mem q.m hK h6 → hK.n + 4 ≤ h6.n → h6.ext.get (hK.n + 1) = some (.cells [K64 (lowM s)] 0 none) → h6.ext.get (hK.n + 2) = some (.cells [K64 r] 0 none) → (∃ es', h6.ext.get q.m = some (.map es') ∧ Memo F es') → h6.ext.get hK.n = some (.cells [KI acc'] 0 none) →
              (acc' + if t = 0 then 0 else sumFrom (fun t => if F (t ||| lowM s) = true then ways F k (nclr (nclr s t) (lowM s)) else 0) r (t - 1 &&& r)) = ways F (k + 1) s →
              (fun (r_1 : Value) (h' : IH) => r_1 = .bool true ∧ (t = 0 → Mem q.m hK h' ∧ hK.n + 4 ≤ h'.n ∧ h'.ext.get (hK.n + 3) = some (.loop rec) ∧ (∃ es', h'.ext.get q.m = some (.map es') ∧ Memo F es') ∧ h'.ext.get hK.n = some (.cells [KI (ways F (k + 1) s)] 0 none)) ∧
                (0 < t → t - 1 &&& r ≤ r ∧ Mem q.m hK h' ∧ hK.n + 4 ≤ h'.n ∧ h'.ext.get (hK.n + 1) = some (.cells [K64 (lowM s)] 0 none) ∧ h'.ext.get (hK.n + 2) = some (.cells [K64 r] 0 none) ∧ h'.ext.get (hK.n + 3) = some (.loop rec) ∧ (∃ es', h'.ext.get q.m = some (.map es') ∧ Memo F es') ∧
                  ∃ acc : Nat, h'.ext.get hK.n = some (.cells [KI acc] 0 none) ∧ acc + sumFrom (fun t => if F (t ||| lowM s) = true then ways F k (nclr (nclr s t) (lowM s)) else 0) r (t - 1 &&& r) = ways F (k + 1) s)) (.bool true) (h6.put (hK.n + 3) (.loop rec)) := by
            intro h6 acc' a1 a2 a3 a4 a5 a6 a7
            obtain ⟨es2, a5, a8⟩ := a5
            have b1 : Mem q.m hK (h6.put (hK.n + 3) (.loop rec)) := a1.put (by omega) _
            have b3 : (h6.put (hK.n + 3) (.loop rec)).ext.get (hK.n + 1) = some (.cells [K64 (lowM s)] 0 none) := by rw [get_put_old _ _ (by omega)]; exact a3
            have b4 : (h6.put (hK.n + 3) (.loop rec)).ext.get (hK.n + 2) = some (.cells [K64 r] 0 none) := by rw [get_put_old _ _ (by omega)]; exact a4
            have b5 : (h6.put (hK.n + 3) (.loop rec)).ext.get q.m = some (.map es2) := by rw [get_put_old _ _ (by omega)]; exact a5
            have b6 : (h6.put (hK.n + 3) (.loop rec)).ext.get hK.n = some (.cells [KI acc'] 0 none) := by rw [get_put_old _ _ (by omega)]; exact a6
            have b7 : (h6.put (hK.n + 3) (.loop rec)).ext.get (hK.n + 3) = some (.loop rec) := get_put_same _ _ rfl
            refine ⟨rfl, fun ht => ⟨b1, a2, b7, ⟨es2, b5, a8⟩, ?_⟩, fun ht => ⟨Nat.and_le_right, b1, a2, b3, b4, b7, ⟨es2, b5, a8⟩, acc', b6, ?_⟩⟩
            · rw [if_pos ht, Nat.add_zero] at a7; rw [← a7]; exact b6
            · rw [if_neg (by omega)] at a7; exact a7
          refine bq_intro ?_ ?_ <;> intro hFt
          · have ek : ((k + 1 : Nat) : Int) - 1 = (k : Int) := by omega
            rw [if_pos hFt] at hfr
            have hsub : nclr (nclr s t) (lowM s) < 2 ^ n := nclr_lt (nclr_lt hs)
            have hb1 := ways_small F hn (show k ≤ 8 by omega) hsub
            have hb2 := ways_small F hn hk8 hs
            have hst : s < 18446744073709551616 := by omega
            have hnl : nclr s t < 18446744073709551616 := Nat.lt_of_le_of_lt (nclr_le _ _) hst
            refine drawn [(0, [11])] (by kernel_rfl) (by kernel_rfl) rfl ?_
            simp -dsimp (maxSteps := 1000000) (disch := first | omega | (simp only [new_n, put_n]; omega) | decide +kernel | (repeat first | rw [new_n] | rw [put_n])) only [wpS, wpT, Nat.reduceEqDiff, reduceIte, Nat.reduceLT, Nat.reduceLeDiff, Nat.reduceAdd, Nat.reduceMul, Nat.reduceBEq, Int.reduceToNat, ld47, ld3, cv3_47, bv141, pl141_0, pl141_1, zc141, st141, ld139, ld141, u139, zc3, zc47, st3, st47, ld97, fa103_1, ld100, es100, ld4, ld140, ra, rd, rs0, rs1, rl, ek]
            refine call (ih (by omega) fH gm jM (nclr (nclr s t) (lowM s)) hsub) ?_
            rintro _ h5 ⟨rfl, hE5, es'', hm5, hM5⟩
            have qa : h5.row (2 * hK.n) = some [KI acc] := by rw [hE5.row (.inr ⟨by omega, by omega⟩)]; exact ra
            have ga5 : h5.ext.get hK.n = some (.cells [KI acc] 0 none) := by rw [hE5.get _ (by omega) (by omega)]; exact ga
            simp -dsimp (maxSteps := 1000000) (disch := first | omega | (simp only [new_n, put_n]; omega) | decide +kernel | (repeat first | rw [new_n] | rw [put_n])) only [wpS, wpT, Nat.reduceEqDiff, reduceIte, Nat.reduceLT, Nat.reduceLeDiff, Nat.reduceAdd, Nat.reduceMul, Nat.reduceBEq, Int.reduceToNat, ld47, ld3, cv3_47, bv141, pl141_0, pl141_1, zc141, st141, ld139, ld141, u139, zc3, zc47, st3, st47, ld97, fa103_1, ld100, es100, ld4, ld140, qa, ga5]
            refine ⟨wpSteady_one rfl rfl rfl rfl (steady_load (av := ptr (2 * hK.n) 0) (v := KI acc) rfl ?_ ?_), ?_⟩
            · simp -dsimp (maxSteps := 1000000) (disch := first | omega | (simp only [new_n, put_n]; omega) | decide +kernel | (repeat first | rw [new_n] | rw [put_n])) only [wpS, wpT, Nat.reduceEqDiff, reduceIte, Nat.reduceLT, Nat.reduceLeDiff, Nat.reduceAdd, Nat.reduceMul, Nat.reduceBEq, Int.reduceToNat, ld47, ld3, cv3_47, bv141, pl141_0, pl141_1, zc141, st141, ld139, ld141, u139, zc3, zc47, st3, st47, ld97, fa103_1, ld100, es100, ld4, ld140, ra]
            · simp -dsimp (maxSteps := 1000000) (disch := first | omega | (simp only [new_n, put_n]; omega) | decide +kernel | (repeat first | rw [new_n] | rw [put_n])) only [wpS, wpT, Nat.reduceEqDiff, reduceIte, Nat.reduceLT, Nat.reduceLeDiff, Nat.reduceAdd, Nat.reduceMul, Nat.reduceBEq, Int.reduceToNat, ld47, ld3, cv3_47, bv141, pl141_0, pl141_1, zc141, st141, ld139, ld141, u139, zc3, zc47, st3, st47, ld97, fa103_1, ld100, es100, ld4, ld140, qa]
            simp -dsimp (maxSteps := 1000000) (disch := first | omega | (simp only [new_n, put_n]; omega) | decide +kernel | (repeat first | rw [new_n] | rw [put_n])) only [wpS, wpT, Nat.reduceEqDiff, reduceIte, Nat.reduceLT, Nat.reduceLeDiff, Nat.reduceAdd, Nat.reduceMul, Nat.reduceBEq, Int.reduceToNat, ld47, ld3, cv3_47, bv141, pl141_0, pl141_1, zc141, st141, ld139, ld141, u139, zc3, zc47, st3, st47, ld97, fa103_1, ld100, es100, ld4, ld140, qa]
            have h5n := hE5.n
            refine ⟨rfl, ?_, fin _ (acc + ways F k (nclr (nclr s t) (lowM s))) ((gE.trans hE5).put (by omega) _) (by simp only [put_n]; omega) ?_ ?_ ⟨es'', ?_, hM5⟩ ?_ ?_⟩
            · rw [get_put_old _ _ (by omega), hE5.get _ (by omega) (by omega)]; exact gL
            · rw [get_put_old _ _ (by omega), hE5.get _ (by omega) (by omega)]; exact gl
            · rw [get_put_old _ _ (by omega), hE5.get _ (by omega) (by omega)]; exact gb
            · rw [get_put_old _ _ (by omega)]; exact hm5
            · rw [get_put_same _ _ rfl, Int.natCast_add]
            · omega
          · rw [if_neg (by rw [hFt]; simp)] at hfr
            exact ⟨rfl, gL, fin _ acc gE gn gl gb ⟨es', gm, jM⟩ ga (by omega)⟩
        · rintro _ hh ⟨j2, j4, j6, ⟨es', j7, jM⟩, j8⟩
          refine ⟨j6, ?_⟩
          have hKn := kE.n
          have dE : Mem q.m hK (hh.put (hK.n + 3) .dead) := j2.put (by omega) _
          have dn : (hh.put (hK.n + 3) .dead).ext.get hK.n = some (.cells [KI (ways F (k + 1) s)] 0 none) := by rw [get_put_old _ _ (by omega)]; exact j8
          have dm : (hh.put (hK.n + 3) .dead).ext.get q.m = some (.map es') := by rw [get_put_old _ _ (by omega)]; exact j7
          generalize hh.put (hK.n + 3) .dead = h4 at *
          have f4 := fK.mem dE
          have rc4 : h4.row (2 * q.c) = some [.map (some (2 * q.m))] := by rw [row_even]; simp only [IH.cells, f4.gc]
          have rk4 : h4.row (2 * (h.n + 2)) = some [K64 s, K64 (k + 1)] := by rw [dE.row (.inr ⟨by omega, by omega⟩)]; exact rk
          have rn4 : h4.row (2 * hK.n) = some [KI (ways F (k + 1) s)] := by rw [row_even]; simp only [IH.cells, dn]
          have hup := mapUpdate_eq mapT139 (keyT_arr uKey u47 sz47) dm (k := keyV s (k + 1)) ⟨[(s : Int), ((k + 1 : Nat) : Int)], rfl, rfl⟩ (memo_keys jM) (KI (ways F (k + 1) s))
          have hup' : mapUpdate Proofs.Tryd.prog h4 139 (.map (some (2 * q.m))) (.agg #[K64 s, K64 (k + 1)]) (KI (ways F (k + 1) s)) = _ := hup
          simp -dsimp (maxSteps := 1000000) (disch := first | omega | (simp only [new_n, put_n]; omega) | decide +kernel | (repeat first | rw [new_n] | rw [put_n])) only [wpS, wpT, Nat.reduceEqDiff, reduceIte, Nat.reduceLT, Nat.reduceLeDiff, Nat.reduceAdd, Nat.reduceMul, Nat.reduceBEq, Int.reduceToNat, ld47, ld3, cv3_47, bv141, pl141_0, pl141_1, zc141, st141, ld139, ld141, u139, zc3, zc47, st3, st47, ld97, fa103_1, ld100, es100, ld4, ld140, rc4, rk4, rn4, List.drop_zero, take2, hup']
          exact ⟨((kE.mem q.m).trans dE).put (.inr rfl) _, _, rfl, memo_upd jM (by omega) (by omega)⟩
end Go.Id

/-! Contracts: enumerate. The ways to complete classes and to divide what is left. -/
namespace Go.Id
open Go

theorem Mem.keep {m : Nat} {h h' : IH} (e : Mem m h h') {es : MapL} (hm : h.ext.get m = some (.map es)) : Keep h h' := ⟨e.n, e.base, fun k c t f hk hg he => by
  by_cases hkm : k = m
  · subst hkm; rw [hm] at hg; cases hg
  · exact ⟨f, by rw [e.get k hk hkm, hg]⟩⟩
/-- The function that completes classes. -/
def compV (q : FP) : Value := .func (.func 87) #[] #[ptr (2 * q.d) 0, ptr (2 * q.x) 0]
def c64 (cs : List Nat) : List Value := cs.map fun c => K64 c
theorem c64_len (cs : List Nat) : (c64 cs).length = cs.length := by simp [c64]
set_option maxHeartbeats 4000000 in
theorem complete_ok {F : Nat → Bool} {n : Nat} (hn : n ≤ 12) {q : FP} : ∀ (cs : List Nat) {h : IH} {k : Nat} (_ : k ≤ 8) (_ : FieldAt h q n F) {es : MapL} (_ : h.ext.get q.m = some (.map es)) (_ : Memo F es) {s : Nat} (_ : s < 2 ^ n) (_ : ∀ c ∈ cs, c < 2 ^ n) {v : Value} (_ : SlOf h 1 v cs.length (c64 cs)) (_ : cs.length ≤ 100),
    WV Proofs.Tryd.prog (compV q) [v, K64 s, KI k] h fun r h' => r = KI (after F cs s k) ∧ Mem q.m h h' ∧ ∃ es', h'.ext.get q.m = some (.map es') ∧ Memo F es' := by
  intro cs
  induction cs with
  | nil =>
    intro h k hk hf es hm hM s hs hcs v hv _
    have hp12 : 2 ^ n ≤ 2 ^ 12 := Nat.pow_le_pow_right (by omega) hn
    unfold compV
    refine enter (nt := 51) (rs := [.tmp 8]) Proofs.Tryd.func87 rfl rfl rfl (by simp) ?_
    have hd0 : h.row (2 * q.d) = some [.func (.func 85) #[] #[ptr (2 * q.c) 0, ptr (2 * q.x) 0, ptr (2 * q.d) 0]] := by rw [row_even]; simp only [IH.cells, hf.gd]
    have hld := hf.ld
    have hlm := hf.lm
    simp -dsimp (maxSteps := 1000000) (disch := first | omega | (simp only [new_n, put_n]; omega) | decide +kernel | (repeat first | rw [new_n] | rw [put_n])) only [wpS, wpT, Nat.reduceEqDiff, reduceIte, Nat.reduceLT, Nat.reduceLeDiff, Nat.reduceAdd, Nat.reduceMul, Nat.reduceBEq, Int.reduceToNat, ld38, ld140, ld47, ld3, zc3, st3, ld97, fa103_1, ld100, es38, es100, ld4, fa103_2, ld101, ln38, hv.cells, hv.len sl38, List.length_nil, hd0]
    have e0 : Ext h (((h.new (.cells [v] 0 none)).new (.cells [K64 s] 0 none)).new (.cells [KI k] 0 none)) := (((Ext.refl h).new _).new _).new _
    refine call (divide_ok hn k hk (hf.mem (e0.mem _)) ((e0.get _ hlm).trans hm) hM s hs) ?_
    rintro _ h5 ⟨rfl, hE5, es', hm5, hM5⟩
    simp -dsimp (maxSteps := 1000000) (disch := first | omega | (simp only [new_n, put_n]; omega) | decide +kernel | (repeat first | rw [new_n] | rw [put_n])) only [wpS, wpT, Nat.reduceEqDiff, reduceIte, Nat.reduceLT, Nat.reduceLeDiff, Nat.reduceAdd, Nat.reduceMul, Nat.reduceBEq, Int.reduceToNat, ld38, ld140, ld47, ld3, zc3, st3, ld97, fa103_1, ld100, es38, es100, ld4, fa103_2, ld101, ln38]
    exact ⟨rfl, (e0.mem _).trans hE5, es', hm5, hM5⟩
  | cons c cs ih =>
    intro h k hk hf es hm hM s hs hcs v hv hlen
    have hp12 : 2 ^ n ≤ 2 ^ 12 := Nat.pow_le_pow_right (by omega) hn
    unfold compV
    refine enter (nt := 51) (rs := [.tmp 8]) Proofs.Tryd.func87 rfl rfl rfl (by simp) ?_
    have hlm := hf.lm
    have hl1 : (c :: cs).length = cs.length + 1 := rfl
    rw [hl1] at hv
    have e1 : (((cs.length + 1 : Nat) : Int) == 0) = false := by simp; omega
    simp -dsimp (maxSteps := 1000000) (disch := first | omega | (simp only [new_n, put_n]; omega) | decide +kernel | (repeat first | rw [new_n] | rw [put_n])) only [wpS, wpT, Nat.reduceEqDiff, reduceIte, Nat.reduceLT, Nat.reduceLeDiff, Nat.reduceAdd, Nat.reduceMul, Nat.reduceBEq, Int.reduceToNat, ld38, ld140, ld47, ld3, zc3, st3, ld97, fa103_1, ld100, es38, es100, ld4, fa103_2, ld101, ln38, hv.cells, hv.len sl38, e1]
    refine bq_intro ?_ ?_ <;> intro hkl
    · simp only [decide_eq_true_eq] at hkl
      have hkl2 : cs.length + 1 ≤ k := by omega
      simp -dsimp (maxSteps := 1000000) (disch := first | omega | (simp only [new_n, put_n]; omega) | decide +kernel | (repeat first | rw [new_n] | rw [put_n])) only [wpS, wpT, Nat.reduceEqDiff, reduceIte, Nat.reduceLT, Nat.reduceLeDiff, Nat.reduceAdd, Nat.reduceMul, Nat.reduceBEq, Int.reduceToNat, ld38, ld140, ld47, ld3, zc3, st3, ld97, fa103_1, ld100, es38, es100, ld4, fa103_2, ld101, ln38]
      refine call (subsets_ok s) ?_
      rintro _ _ ⟨rfl, rfl⟩
      simp -dsimp (maxSteps := 1000000) (disch := first | omega | (simp only [new_n, put_n]; omega) | decide +kernel | (repeat first | rw [new_n] | rw [put_n])) only [wpS, wpT, Nat.reduceEqDiff, reduceIte, Nat.reduceLT, Nat.reduceLeDiff, Nat.reduceAdd, Nat.reduceMul, Nat.reduceBEq, Int.reduceToNat, ld38, ld140, ld47, ld3, zc3, st3, ld97, fa103_1, ld100, es38, es100, ld4, fa103_2, ld101, ln38]
      have t0 : ((((((h.new (.cells [v] 0 none)).new (.cells [.int .u64 s] 0 none)).new (.cells [.int .i64 k] 0 none)).new (.cells [.int .i64 0] 0 none)).put (h.n + 1 + 1 + 1) (.cells [.int .i64 0] 0 none)).new (.cells [K64 s] 0 none)).n = h.n + 5 := rfl
      have tE : Ext h ((((((h.new (.cells [v] 0 none)).new (.cells [.int .u64 s] 0 none)).new (.cells [.int .i64 k] 0 none)).new (.cells [.int .i64 0] 0 none)).put (h.n + 1 + 1 + 1) (.cells [.int .i64 0] 0 none)).new (.cells [K64 s] 0 none)) := ((((((Ext.refl h).new _).new _).new _).new _).put (by omega) _).new _
      have g0 : ((((((h.new (.cells [v] 0 none)).new (.cells [.int .u64 s] 0 none)).new (.cells [.int .i64 k] 0 none)).new (.cells [.int .i64 0] 0 none)).put (h.n + 1 + 1 + 1) (.cells [.int .i64 0] 0 none)).new (.cells [K64 s] 0 none)).ext.get h.n = some (.cells [v] 0 none) := by
        simp (disch := first | omega | (simp only [new_n, put_n]; omega) | (repeat first | rw [new_n] | rw [put_n])) only [get_new_same, get_new_old, get_put_same, get_put_old]
      have g1 : ((((((h.new (.cells [v] 0 none)).new (.cells [.int .u64 s] 0 none)).new (.cells [.int .i64 k] 0 none)).new (.cells [.int .i64 0] 0 none)).put (h.n + 1 + 1 + 1) (.cells [.int .i64 0] 0 none)).new (.cells [K64 s] 0 none)).ext.get (h.n + 1) = some (.cells [K64 s] 0 none) := by
        simp (disch := first | omega | (simp only [new_n, put_n]; omega) | (repeat first | rw [new_n] | rw [put_n])) only [get_new_same, get_new_old, get_put_same, get_put_old]
      have g2 : ((((((h.new (.cells [v] 0 none)).new (.cells [.int .u64 s] 0 none)).new (.cells [.int .i64 k] 0 none)).new (.cells [.int .i64 0] 0 none)).put (h.n + 1 + 1 + 1) (.cells [.int .i64 0] 0 none)).new (.cells [K64 s] 0 none)).ext.get (h.n + 2) = some (.cells [KI k] 0 none) := by
        simp (disch := first | omega | (simp only [new_n, put_n]; omega) | (repeat first | rw [new_n] | rw [put_n])) only [get_new_same, get_new_old, get_put_same, get_put_old]
      have g3 : ((((((h.new (.cells [v] 0 none)).new (.cells [.int .u64 s] 0 none)).new (.cells [.int .i64 k] 0 none)).new (.cells [.int .i64 0] 0 none)).put (h.n + 1 + 1 + 1) (.cells [.int .i64 0] 0 none)).new (.cells [K64 s] 0 none)).ext.get (h.n + 3) = some (.cells [KI 0] 0 none) := by
        simp (disch := first | omega | (simp only [new_n, put_n]; omega) | (repeat first | rw [new_n] | rw [put_n])) only [get_new_same, get_new_old, get_put_same, get_put_old]
      have g4 : ((((((h.new (.cells [v] 0 none)).new (.cells [.int .u64 s] 0 none)).new (.cells [.int .i64 k] 0 none)).new (.cells [.int .i64 0] 0 none)).put (h.n + 1 + 1 + 1) (.cells [.int .i64 0] 0 none)).new (.cells [K64 s] 0 none)).ext.get (h.n + 4) = some (.cells [K64 s] 0 none) := get_new_same _ _ rfl
      have gm0 : ((((((h.new (.cells [v] 0 none)).new (.cells [.int .u64 s] 0 none)).new (.cells [.int .i64 k] 0 none)).new (.cells [.int .i64 0] 0 none)).put (h.n + 1 + 1 + 1) (.cells [.int .i64 0] 0 none)).new (.cells [K64 s] 0 none)).ext.get q.m = some (.map es) := (tE.get _ hlm).trans hm
      generalize (((((h.new (.cells [v] 0 none)).new (.cells [.int .u64 s] 0 none)).new (.cells [.int .i64 k] 0 none)).new (.cells [.int .i64 0] 0 none)).put (h.n + 1 + 1 + 1) (.cells [.int .i64 0] 0 none)).new (.cells [K64 s] 0 none) = hT at *
      refine range1 rfl rfl ?_ ?_ ?_
      · decide
      · decide
      intro rec y hy
      rw [t0] at hy ⊢
      have haft : after F (c :: cs) s k = sumFrom (fun t => if F (c ||| t) = true then after F cs (nclr s t) (k - 1) else 0) s s := by rw [after, if_pos hkl2]
      refine WV.mono (subsets1_ok (h.n + 4) s (by omega) (fun t hh => t ≤ s ∧ Mem q.m h hh ∧ h.n + 6 ≤ hh.n ∧ hh.ext.get h.n = some (.cells [v] 0 none) ∧ hh.ext.get (h.n + 1) = some (.cells [K64 s] 0 none) ∧ hh.ext.get (h.n + 2) = some (.cells [KI k] 0 none) ∧ hh.ext.get (h.n + 4) = some (.cells [K64 s] 0 none) ∧ hh.ext.get (h.n + 5) = some (.loop rec) ∧ (∃ es', hh.ext.get q.m = some (.map es') ∧ Memo F es') ∧
          ∃ acc : Nat, hh.ext.get (h.n + 3) = some (.cells [KI acc] 0 none) ∧ acc + sumFrom (fun t => if F (c ||| t) = true then after F cs (nclr s t) (k - 1) else 0) s t = after F (c :: cs) s k)
        (fun hh => Mem q.m h hh ∧ h.n + 6 ≤ hh.n ∧ hh.ext.get (h.n + 5) = some (.loop rec) ∧ (∃ es', hh.ext.get q.m = some (.map es') ∧ Memo F es') ∧ hh.ext.get (h.n + 3) = some (.cells [KI (after F (c :: cs) s k)] 0 none)) ?_ ?_ ?_) ?_
      · rintro t hh ⟨j1, j2, j3, j4, j5, j6, j7, j8, j9⟩
        rw [row_even]; simp only [IH.cells, j7]
      · refine ⟨Nat.le_refl _, (tE.new _).mem _, by simp [t0], ?_, ?_, ?_, ?_, get_new_same _ _ t0.symm, ⟨es, ?_, hM⟩, 0, ?_, by rw [Nat.zero_add, haft]⟩
        · rw [get_new_old _ _ (by omega)]; exact g0
        · rw [get_new_old _ _ (by omega)]; exact g1
        · rw [get_new_old _ _ (by omega)]; exact g2
        · rw [get_new_old _ _ (by omega)]; exact g4
        · rw [get_new_old _ _ (by omega)]; exact gm0
        · rw [get_new_old _ _ (by omega)]; exact g3
      · rintro t hh - ⟨j1, j2, j3, j4, j5, j6, j7, j8, ⟨es', jm, jM⟩, acc, j9, j10⟩
        refine hy _ _ _ j8 ?_
        have gE : Mem q.m h (hh.put (h.n + 5) (.loop (busyL rec))) := j2.put (by omega) _
        have gn : h.n + 6 ≤ (hh.put (h.n + 5) (.loop (busyL rec))).n := j3
        have b0 : (hh.put (h.n + 5) (.loop (busyL rec))).ext.get h.n = some (.cells [v] 0 none) := by rw [get_put_old _ _ (by omega)]; exact j4
        have b1 : (hh.put (h.n + 5) (.loop (busyL rec))).ext.get (h.n + 1) = some (.cells [K64 s] 0 none) := by rw [get_put_old _ _ (by omega)]; exact j5
        have b2 : (hh.put (h.n + 5) (.loop (busyL rec))).ext.get (h.n + 2) = some (.cells [KI k] 0 none) := by rw [get_put_old _ _ (by omega)]; exact j6
        have b4 : (hh.put (h.n + 5) (.loop (busyL rec))).ext.get (h.n + 4) = some (.cells [K64 s] 0 none) := by rw [get_put_old _ _ (by omega)]; exact j7
        have b5 : (hh.put (h.n + 5) (.loop (busyL rec))).ext.get (h.n + 5) = some (.loop (busyL rec)) := get_put_same _ _ rfl
        have gm : (hh.put (h.n + 5) (.loop (busyL rec))).ext.get q.m = some (.map es') := by rw [get_put_old _ _ (by omega)]; exact jm
        have b3 : (hh.put (h.n + 5) (.loop (busyL rec))).ext.get (h.n + 3) = some (.cells [KI acc] 0 none) := by rw [get_put_old _ _ (by omega)]; exact j9
        generalize hh.put (h.n + 5) (.loop (busyL rec)) = H at *
        have fH := hf.mem gE
        have hvH := hv.keep (gE.keep hm)
        have hi0 := hvH.idx (P := Proofs.Tryd.prog) es38 (k := .i64) (j := 0) (by omega)
        have hld := hvH.ld (Keep.refl _) (c := 0) (by simp [c64]) (P := Proofs.Tryd.prog) (t := 47) ag47
        have hg0 : (c64 (c :: cs))[0]? = some (K64 c) := rfl
        rw [hg0] at hld
        rw [Nat.zero_mul] at hi0
        have hi0' : indexAddr Proofs.Tryd.prog 38 v (.int .i64 0) = some (elemAddr v 0) := hi0
        have hc := hcs c (by simp)
        have rx : H.row (2 * q.x) = some [ptr (2 * q.p) 0] := by rw [row_even]; simp only [IH.cells, fH.gx]
        have rp : H.row (2 * q.p) = some [KI n, .slice (some ⟨2 * q.fb, 0, none⟩) (2 ^ n) (2 * 2 ^ n + 1), .func (.func 87) #[] #[ptr (2 * q.d) 0, ptr (2 * q.x) 0]] := by rw [row_even]; simp only [IH.cells, fH.gp]
        have rf : H.row (2 * q.fb) = some (fitC n F) := by rw [row_even]; simp only [IH.cells, fH.gf]
        have r0 : H.row (2 * h.n) = some [v] := by rw [row_even]; simp only [IH.cells, b0]
        have r1 : H.row (2 * (h.n + 1)) = some [K64 s] := by rw [row_even]; simp only [IH.cells, b1]
        have r2 : H.row (2 * (h.n + 2)) = some [KI k] := by rw [row_even]; simp only [IH.cells, b2]
        have r3 : H.row (2 * (h.n + 3)) = some [KI acc] := by rw [row_even]; simp only [IH.cells, b3]
        have hor : c ||| t < 2 ^ n := Nat.or_lt_two_pow hc (by omega)
        have gF : (fitC n F)[c ||| t]? = some (.bool (F (c ||| t))) := by simp [fitC, hor]
        have q0 : 0 ≤ ((2 ^ n : Nat) : Int) := Int.natCast_nonneg _
        simp -dsimp (maxSteps := 1000000) (disch := first | omega | (simp only [new_n, put_n]; omega) | decide +kernel | (repeat first | rw [new_n] | rw [put_n])) only [wpS, wpT, Nat.reduceEqDiff, reduceIte, Nat.reduceLT, Nat.reduceLeDiff, Nat.reduceAdd, Nat.reduceMul, Nat.reduceBEq, Int.reduceToNat, ld38, ld140, ld47, ld3, zc3, st3, ld97, fa103_1, ld100, es38, es100, ld4, fa103_2, ld101, ln38, rx, rp, rf, r0, hi0', hld, gF]
        have hfr := sumFrom_eq (fun t => if F (c ||| t) = true then after F cs (nclr s t) (k - 1) else 0) s t
        have fin : ∀ (h6 : IH) (acc' : Nat), Mem q.m h h6 → h.n + 6 ≤ h6.n → h6.ext.get h.n = some (.cells [v] 0 none) → h6.ext.get (h.n + 1) = some (.cells [K64 s] 0 none) → h6.ext.get (h.n + 2) = some (.cells [KI k] 0 none) → h6.ext.get (h.n + 4) = some (.cells [K64 s] 0 none) → (∃ es', h6.ext.get q.m = some (.map es') ∧ Memo F es') → h6.ext.get (h.n + 3) = some (.cells [KI acc'] 0 none) →
            (acc' + if t = 0 then 0 else sumFrom (fun t => if F (c ||| t) = true then after F cs (nclr s t) (k - 1) else 0) s (t - 1 &&& s)) = after F (c :: cs) s k →
            (fun (r_1 : Value) (h' : IH) => r_1 = .bool true ∧ (t = 0 → Mem q.m h h' ∧ h.n + 6 ≤ h'.n ∧ h'.ext.get (h.n + 5) = some (.loop rec) ∧ (∃ es', h'.ext.get q.m = some (.map es') ∧ Memo F es') ∧ h'.ext.get (h.n + 3) = some (.cells [KI (after F (c :: cs) s k)] 0 none)) ∧
                (0 < t → t - 1 &&& s ≤ s ∧ Mem q.m h h' ∧ h.n + 6 ≤ h'.n ∧ h'.ext.get h.n = some (.cells [v] 0 none) ∧ h'.ext.get (h.n + 1) = some (.cells [K64 s] 0 none) ∧ h'.ext.get (h.n + 2) = some (.cells [KI k] 0 none) ∧ h'.ext.get (h.n + 4) = some (.cells [K64 s] 0 none) ∧ h'.ext.get (h.n + 5) = some (.loop rec) ∧ (∃ es', h'.ext.get q.m = some (.map es') ∧ Memo F es') ∧
                  ∃ acc : Nat, h'.ext.get (h.n + 3) = some (.cells [KI acc] 0 none) ∧ acc + sumFrom (fun t => if F (c ||| t) = true then after F cs (nclr s t) (k - 1) else 0) s (t - 1 &&& s) = after F (c :: cs) s k)) (.bool true) (h6.put (h.n + 5) (.loop rec)) := by
          intro h6 acc' a1 a2 a3 a4 a5 a6 a7 a8 a9
          obtain ⟨es2, a7, a10⟩ := a7
          have c1 : Mem q.m h (h6.put (h.n + 5) (.loop rec)) := a1.put (by omega) _
          have c3 : (h6.put (h.n + 5) (.loop rec)).ext.get h.n = some (.cells [v] 0 none) := by rw [get_put_old _ _ (by omega)]; exact a3
          have c4 : (h6.put (h.n + 5) (.loop rec)).ext.get (h.n + 1) = some (.cells [K64 s] 0 none) := by rw [get_put_old _ _ (by omega)]; exact a4
          have c5 : (h6.put (h.n + 5) (.loop rec)).ext.get (h.n + 2) = some (.cells [KI k] 0 none) := by rw [get_put_old _ _ (by omega)]; exact a5
          have c6 : (h6.put (h.n + 5) (.loop rec)).ext.get (h.n + 4) = some (.cells [K64 s] 0 none) := by rw [get_put_old _ _ (by omega)]; exact a6
          have c7 : (h6.put (h.n + 5) (.loop rec)).ext.get q.m = some (.map es2) := by rw [get_put_old _ _ (by omega)]; exact a7
          have c8 : (h6.put (h.n + 5) (.loop rec)).ext.get (h.n + 3) = some (.cells [KI acc'] 0 none) := by rw [get_put_old _ _ (by omega)]; exact a8
          have c9 : (h6.put (h.n + 5) (.loop rec)).ext.get (h.n + 5) = some (.loop rec) := get_put_same _ _ rfl
          refine ⟨rfl, fun ht => ⟨c1, a2, c9, ⟨es2, c7, a10⟩, ?_⟩, fun ht => ⟨Nat.and_le_right, c1, a2, c3, c4, c5, c6, c9, ⟨es2, c7, a10⟩, acc', c8, ?_⟩⟩
          · rw [if_pos ht, Nat.add_zero] at a9; rw [← a9]; exact c8
          · rw [if_neg (by omega)] at a9; exact a9
        refine bq_intro ?_ ?_ <;> intro hFt
        · rw [if_pos hFt] at hfr
          have ek : (k : Int) - 1 = ((k - 1 : Nat) : Int) := by omega
          have hsub : nclr s t < 2 ^ n := nclr_lt hs
          have hb1 := after_small F cs hn (show k - 1 ≤ 8 by omega) hsub
          have hb2 := after_small F (c :: cs) hn hk hs
          obtain ⟨v2, hsl, hv2⟩ := hvH.slice (Keep.refl H) (P := Proofs.Tryd.prog) (t := 38) u38 sz47 (l := 1) (m := cs.length + 1) (by omega) (Nat.le_refl _) (lo := some (.int .i64 1)) (hi := none) (loOf_int (by omega) (by omega)) (fun c _ => hiOf_none _ _)
          have hv3 : SlOf H 1 v2 cs.length (c64 cs) := by
            have e : ((c64 (c :: cs)).drop (1 * 1)).take ((cs.length + 1 - 1) * 1) = c64 cs := by
              rw [show cs.length + 1 - 1 = cs.length by omega, Nat.mul_one, Nat.mul_one]
              exact List.take_of_length_le (by simp [c64])
            rw [e] at hv2
            exact hv2
          refine drawn [(0, [14])] (by kernel_rfl) (by kernel_rfl) rfl ?_
          simp -dsimp (maxSteps := 1000000) (disch := first | omega | (simp only [new_n, put_n]; omega) | decide +kernel | (repeat first | rw [new_n] | rw [put_n])) only [wpS, wpT, Nat.reduceEqDiff, reduceIte, Nat.reduceLT, Nat.reduceLeDiff, Nat.reduceAdd, Nat.reduceMul, Nat.reduceBEq, Int.reduceToNat, ld38, ld140, ld47, ld3, zc3, st3, ld97, fa103_1, ld100, es38, es100, ld4, fa103_2, ld101, ln38, rx, rp, r0, r1, r2, r3, hsl, ek]
          refine call (ih (by omega) fH gm jM hsub (fun d hd => hcs d (by simp [hd])) hv3 (by simp at hlen; omega)) ?_
          rintro _ h5 ⟨rfl, hE5, es'', hm5, hM5⟩
          have q3 : h5.row (2 * (h.n + 3)) = some [KI acc] := by rw [hE5.row (.inr ⟨by omega, by omega⟩)]; exact r3
          have ga5 : h5.ext.get (h.n + 3) = some (.cells [KI acc] 0 none) := by rw [hE5.get _ (by omega) (by omega)]; exact b3
          simp -dsimp (maxSteps := 1000000) (disch := first | omega | (simp only [new_n, put_n]; omega) | decide +kernel | (repeat first | rw [new_n] | rw [put_n])) only [wpS, wpT, Nat.reduceEqDiff, reduceIte, Nat.reduceLT, Nat.reduceLeDiff, Nat.reduceAdd, Nat.reduceMul, Nat.reduceBEq, Int.reduceToNat, ld38, ld140, ld47, ld3, zc3, st3, ld97, fa103_1, ld100, es38, es100, ld4, fa103_2, ld101, ln38, q3, ga5]
          refine ⟨wpSteady_one rfl rfl rfl rfl (steady_load (av := ptr (2 * (h.n + 3)) 0) (v := KI acc) rfl ?_ ?_), ?_⟩
          · simp -dsimp (maxSteps := 1000000) (disch := first | omega | (simp only [new_n, put_n]; omega) | decide +kernel | (repeat first | rw [new_n] | rw [put_n])) only [wpS, wpT, Nat.reduceEqDiff, reduceIte, Nat.reduceLT, Nat.reduceLeDiff, Nat.reduceAdd, Nat.reduceMul, Nat.reduceBEq, Int.reduceToNat, ld38, ld140, ld47, ld3, zc3, st3, ld97, fa103_1, ld100, es38, es100, ld4, fa103_2, ld101, ln38, r3]
          · simp -dsimp (maxSteps := 1000000) (disch := first | omega | (simp only [new_n, put_n]; omega) | decide +kernel | (repeat first | rw [new_n] | rw [put_n])) only [wpS, wpT, Nat.reduceEqDiff, reduceIte, Nat.reduceLT, Nat.reduceLeDiff, Nat.reduceAdd, Nat.reduceMul, Nat.reduceBEq, Int.reduceToNat, ld38, ld140, ld47, ld3, zc3, st3, ld97, fa103_1, ld100, es38, es100, ld4, fa103_2, ld101, ln38, q3]
          simp -dsimp (maxSteps := 1000000) (disch := first | omega | (simp only [new_n, put_n]; omega) | decide +kernel | (repeat first | rw [new_n] | rw [put_n])) only [wpS, wpT, Nat.reduceEqDiff, reduceIte, Nat.reduceLT, Nat.reduceLeDiff, Nat.reduceAdd, Nat.reduceMul, Nat.reduceBEq, Int.reduceToNat, ld38, ld140, ld47, ld3, zc3, st3, ld97, fa103_1, ld100, es38, es100, ld4, fa103_2, ld101, ln38, q3]
          have h5n := hE5.n
          refine ⟨rfl, ?_, fin _ (acc + after F cs (nclr s t) (k - 1)) ((gE.trans hE5).put (by omega) _) (by simp only [put_n]; omega) ?_ ?_ ?_ ?_ ⟨es'', ?_, hM5⟩ ?_ ?_⟩
          · rw [get_put_old _ _ (by omega), hE5.get _ (by omega) (by omega)]; exact b5
          · rw [get_put_old _ _ (by omega), hE5.get _ (by omega) (by omega)]; exact b0
          · rw [get_put_old _ _ (by omega), hE5.get _ (by omega) (by omega)]; exact b1
          · rw [get_put_old _ _ (by omega), hE5.get _ (by omega) (by omega)]; exact b2
          · rw [get_put_old _ _ (by omega), hE5.get _ (by omega) (by omega)]; exact b4
          · rw [get_put_old _ _ (by omega)]; exact hm5
          · rw [get_put_same _ _ rfl, Int.natCast_add]
          · omega
        · rw [if_neg (by rw [hFt]; simp)] at hfr
          simp -dsimp (maxSteps := 1000000) (disch := first | omega | (simp only [new_n, put_n]; omega) | decide +kernel | (repeat first | rw [new_n] | rw [put_n])) only [wpS, wpT, Nat.reduceEqDiff, reduceIte, Nat.reduceLT, Nat.reduceLeDiff, Nat.reduceAdd, Nat.reduceMul, Nat.reduceBEq, Int.reduceToNat, ld38, ld140, ld47, ld3, zc3, st3, ld97, fa103_1, ld100, es38, es100, ld4, fa103_2, ld101, ln38]
          exact ⟨rfl, b5, fin _ acc gE gn b0 b1 b2 b4 ⟨es', gm, jM⟩ b3 (by omega)⟩
      · rintro _ hh ⟨j2, j4, j6, ⟨es', j7, jM⟩, j8⟩
        refine ⟨j6, ?_⟩
        have dn : (hh.put (h.n + 5) .dead).ext.get (h.n + 3) = some (.cells [KI (after F (c :: cs) s k)] 0 none) := by rw [get_put_old _ _ (by omega)]; exact j8
        have rn4 : (hh.put (h.n + 5) .dead).row (2 * (h.n + 3)) = some [KI (after F (c :: cs) s k)] := by rw [row_even]; simp only [IH.cells, dn]
        simp -dsimp (maxSteps := 1000000) (disch := first | omega | (simp only [new_n, put_n]; omega) | decide +kernel | (repeat first | rw [new_n] | rw [put_n])) only [wpS, wpT, Nat.reduceEqDiff, reduceIte, Nat.reduceLT, Nat.reduceLeDiff, Nat.reduceAdd, Nat.reduceMul, Nat.reduceBEq, Int.reduceToNat, ld38, ld140, ld47, ld3, zc3, st3, ld97, fa103_1, ld100, es38, es100, ld4, fa103_2, ld101, ln38, rn4]
        exact ⟨j2.put (by omega) _, es', j7, jM⟩
    · simp only [decide_eq_false_iff_not] at hkl
      simp -dsimp (maxSteps := 1000000) (disch := first | omega | (simp only [new_n, put_n]; omega) | decide +kernel | (repeat first | rw [new_n] | rw [put_n])) only [wpS, wpT, Nat.reduceEqDiff, reduceIte, Nat.reduceLT, Nat.reduceLeDiff, Nat.reduceAdd, Nat.reduceMul, Nat.reduceBEq, Int.reduceToNat, ld38, ld140, ld47, ld3, zc3, st3, ld97, fa103_1, ld100, es38, es100, ld4, fa103_2, ld101, ln38]
      refine ⟨?_, (((((((Ext.refl h).new _).new _).new _).new _).put (by omega) _).mem _), es, hm, hM⟩
      rw [after, if_neg (by omega)]; rfl
end Go.Id

/-! Counting plans: the plans by the label of the next node; the plan of a number. -/
namespace Go.Id

theorem or_halves (a b : Nat) : a ||| b = 2 * (a / 2 ||| b / 2) + max (a % 2) (b % 2) := by
  have h1 : (a ||| b) / 2 = a / 2 ||| b / 2 := Nat.or_div_two
  have h2 : (a ||| b) % 2 = max (a % 2) (b % 2) := by
    have := Nat.or_mod_two_pow (a := a) (b := b) (n := 1)
    rw [Nat.pow_one] at this
    rw [this]
    rcases Nat.mod_two_eq_zero_or_one a with h | h <;> rcases Nat.mod_two_eq_zero_or_one b with k | k <;> rw [h, k] <;> rfl
  omega
theorem or_two (t b : Nat) : 2 * t ||| 2 * b = 2 * (t ||| b) := by
  rw [or_halves, show 2 * t / 2 = t by omega, show 2 * b / 2 = b by omega, show 2 * t % 2 = 0 by omega, show 2 * b % 2 = 0 by omega]; rfl
theorem or_two1 (t b : Nat) : 2 * t + 1 ||| 2 * b = 2 * (t ||| b) + 1 := by
  rw [or_halves, show (2 * t + 1) / 2 = t by omega, show 2 * b / 2 = b by omega, show (2 * t + 1) % 2 = 1 by omega, show 2 * b % 2 = 0 by omega]; rfl
theorem or_one (t : Nat) : 2 * t ||| 1 = 2 * t + 1 := by
  rw [or_halves, show 2 * t / 2 = t by omega, show 2 * t % 2 = 0 by omega, show 1 / 2 = 0 by omega, Nat.or_zero]; rfl
/-- A sum over subsets, by a node. -/
theorem subS_split : ∀ (n : Nat) (f : Nat → Nat) (r node : Nat), node < n → r.testBit node = false → subS f (r ||| 2 ^ node) (2 ^ n) = subS (fun t => f t + f (t ||| 2 ^ node)) r (2 ^ n)
  | 0, _, _, _, h, _ => by omega
  | n + 1, f, r, 0, _, hb => by
    have hr : r % 2 = 0 := by
      rw [Nat.testBit_zero] at hb; simp at hb; omega
    have e1 : (r ||| 2 ^ 0) % 2 = 1 := by
      have := or_halves r 1
      rw [Nat.pow_zero]; omega
    have e2 : (r ||| 2 ^ 0) / 2 = r / 2 := by
      have := or_halves r 1
      rw [Nat.pow_zero]
      rw [show 1 / 2 = 0 by omega, Nat.or_zero] at this
      omega
    rw [Nat.pow_succ, Nat.mul_comm, subS_two, subS_two, if_pos e1, if_neg (by omega), e2]
    refine subS_congr fun t _ _ => ?_
    rw [Nat.pow_zero, or_one]
  | n + 1, f, r, node + 1, h, hb => by
    have e0 : 2 ^ (node + 1) = 2 * 2 ^ node := by rw [Nat.pow_succ, Nat.mul_comm]
    have e1 : (r ||| 2 ^ (node + 1)) % 2 = r % 2 := by
      have := or_halves r (2 * 2 ^ node)
      rw [e0]
      have h3 := Nat.mod_lt r (show 0 < 2 by omega)
      rw [show 2 * 2 ^ node % 2 = 0 by omega] at this
      omega
    have e2 : (r ||| 2 ^ (node + 1)) / 2 = r / 2 ||| 2 ^ node := by
      have := or_halves r (2 * 2 ^ node)
      rw [e0]
      rw [show 2 * 2 ^ node / 2 = 2 ^ node by omega] at this
      have h3 := Nat.mod_lt r (show 0 < 2 by omega)
      rw [show 2 * 2 ^ node % 2 = 0 by omega] at this
      omega
    have hb2 : (r / 2).testBit node = false := by rw [Nat.testBit_div_two]; exact hb
    rw [show 2 ^ (n + 1) = 2 * 2 ^ n by rw [Nat.pow_succ, Nat.mul_comm], subS_two, subS_two, e1, e2]
    by_cases hr : r % 2 = 1
    · rw [if_pos hr, if_pos hr, subS_split n _ _ _ (by omega) hb2]
      refine subS_congr fun t _ _ => ?_
      rw [e0, or_two, or_two1]; omega
    · rw [if_neg hr, if_neg hr, subS_split n _ _ _ (by omega) hb2]
      refine subS_congr fun t _ _ => ?_
      rw [e0, or_two]
theorem subS_add (f g : Nat → Nat) (m N : Nat) : subS (fun t => f t + g t) m N = subS f m N + subS g m N := by
  unfold subS
  rw [← sumTo_add]
  refine sumTo_congr fun i _ => ?_
  split <;> rfl
theorem subS_zero (m N : Nat) : subS (fun _ => 0) m N = 0 := by
  unfold subS
  rw [sumTo_cut (Nat.zero_le N) fun i _ _ => by simp]; rfl
theorem subS_swap (g : Nat → Nat → Nat) (m N : Nat) : ∀ L, subS (fun t => sumTo (g t) L) m N = sumTo (fun l => subS (fun t => g t l) m N) L
  | 0 => subS_zero m N
  | L + 1 => by
    rw [sumTo, ← subS_swap g m N L, ← subS_add]; rfl
theorem sumTo_shift (f : Nat → Nat) : ∀ n, sumTo f (n + 1) = f 0 + sumTo (fun i => f (i + 1)) n
  | 0 => by simp [sumTo]
  | n + 1 => by rw [sumTo, sumTo_shift f n, sumTo]; omega
theorem sumTo_if (c : Prop) [Decidable c] (f : Nat → Nat) (n : Nat) : (if c then sumTo f n else 0) = sumTo (fun i => if c then f i else 0) n := by
  split
  · rfl
  · rw [sumTo_cut (Nat.zero_le n) fun i _ _ => rfl]; rfl

/-- Classes in which a node has a label. -/
def lab (cs : List Nat) (node label : Nat) : List Nat := if label = cs.length then cs ++ [2 ^ node] else cs.set label (cs.getD label 0 ||| 2 ^ node)
theorem lab_len (cs : List Nat) (node label : Nat) : (lab cs node label).length = if label = cs.length then cs.length + 1 else cs.length := by
  unfold lab; split <;> simp
theorem lab_nil (node : Nat) : lab [] node 0 = [2 ^ node] := rfl
theorem lab_zero (c : Nat) (cs : List Nat) (node : Nat) : lab (c :: cs) node 0 = (c ||| 2 ^ node) :: cs := by
  unfold lab; rw [if_neg (by simp)]; rfl
theorem lab_succ (c : Nat) (cs : List Nat) (node l : Nat) : lab (c :: cs) node (l + 1) = c :: lab cs node l := by
  unfold lab
  by_cases h : l = cs.length
  · rw [if_pos (by simpa using h), if_pos h]; rfl
  · rw [if_neg (by simpa using h), if_neg h]; simp
theorem lab_mem {n : Nat} : ∀ {cs : List Nat} {node l : Nat}, node < n → (∀ c ∈ cs, c < 2 ^ n) → ∀ c ∈ lab cs node l, c < 2 ^ n
  | [], node, l, hn, _, c, hc => by
    have hp : 2 ^ node < 2 ^ n := Nat.pow_lt_pow_right (by omega) hn
    unfold lab at hc
    split at hc
    · simp at hc; omega
    · simp at hc
  | d :: cs, node, 0, hn, hcs, c, hc => by
    have hp : 2 ^ node < 2 ^ n := Nat.pow_lt_pow_right (by omega) hn
    rw [lab_zero] at hc
    rcases List.mem_cons.1 hc with rfl | hc
    · exact Nat.or_lt_two_pow (hcs d (by simp)) hp
    · exact hcs c (by simp [hc])
  | d :: cs, node, l + 1, hn, hcs, c, hc => by
    rw [lab_succ] at hc
    rcases List.mem_cons.1 hc with rfl | hc
    · exact hcs c (by simp)
    · exact lab_mem (cs := cs) hn (fun e he => hcs e (by simp [he])) c hc
theorem after_nil (F : Nat → Bool) (r k : Nat) : after F [] r k = ways F k r := rfl
theorem after_cons (F : Nat → Bool) (c : Nat) (cs : List Nat) (r k : Nat) : after F (c :: cs) r k = if cs.length + 1 ≤ k then sumFrom (fun t => if F (c ||| t) = true then after F cs (nclr r t) (k - 1) else 0) r r else 0 := rfl
theorem after_long (F : Nat → Bool) : ∀ {cs : List Nat} {r k : Nat}, k < cs.length → after F cs r k = 0
  | [], _, _, h => by simp at h
  | c :: cs, r, k, h => by rw [after_cons, if_neg (by simp at h; omega)]
/-- The plans by the label of the lowest node that has none. -/
theorem after_split (F : Nat → Bool) {n : Nat} (hn : n ≤ 64) {node : Nat} (hnode : node < n) : ∀ (cs : List Nat) (r k : Nat), r < 2 ^ n → (∀ j, j ≤ node → r.testBit j = false) →
    after F cs (r ||| 2 ^ node) k = sumTo (fun l => after F (lab cs node l) r k) (cs.length + 1)
  | [], r, k, hr, hb => by
    have hp : 2 ^ node < 2 ^ n := Nat.pow_lt_pow_right (by omega) hnode
    have hp2 : 2 ^ n ≤ 2 ^ 64 := Nat.pow_le_pow_right (by omega) hn
    have hR : r ||| 2 ^ node < 2 ^ n := Nat.or_lt_two_pow hr hp
    have hlow : Low (r ||| 2 ^ node) node := ⟨by rw [Nat.testBit_or, Nat.testBit_two_pow_self]; simp, fun j hj => by rw [Nat.testBit_or, hb j (by omega), bit_two_pow]; simp; omega⟩
    have e1 : lowM (r ||| 2 ^ node) = 2 ^ node := low_bit hlow (by omega)
    have e2 : nclr (r ||| 2 ^ node) (2 ^ node) = r := by
      apply Nat.eq_of_testBit_eq
      intro j
      rw [testBit_nclr, Nat.testBit_or, bit_two_pow]
      by_cases hj : node = j
      · subst hj; rw [hb node (Nat.le_refl _)]; simp
      · simp [hj]
    rw [show sumTo (fun l => after F (lab [] node l) r k) ([].length + 1) = after F [2 ^ node] r k from by simp [sumTo, lab_nil], after_nil, after_cons]
    cases k with
    | zero =>
      rw [ways, if_neg (by have := hlow.pos; omega), if_neg (by simp)]
    | succ k =>
      rw [ways, if_neg (by have := hlow.pos; omega), if_pos (by simp), e1]
      simp only [e2]
      have : ∀ t, nclr (nclr (r ||| 2 ^ node) t) (2 ^ node) = nclr r t := fun t => by rw [nclr_nclr, e2]
      simp only [this, after_nil, Nat.add_one_sub_one, Nat.or_comm]
  | c :: cs, r, k, hr, hb => by
    have hp : 2 ^ node < 2 ^ n := Nat.pow_lt_pow_right (by omega) hnode
    have hR : r ||| 2 ^ node < 2 ^ n := Nat.or_lt_two_pow hr hp
    have hbn := hb node (Nat.le_refl _)
    rw [after_cons]
    by_cases hk : cs.length + 1 ≤ k
    · rw [if_pos hk, sumFrom_all _ hR, subS_split n _ _ _ hnode hbn, List.length_cons, sumTo_shift, lab_zero, subS_add, Nat.add_comm]
      congr 1
      · rw [after_cons, if_pos hk, sumFrom_all _ hr]
        refine subS_congr fun t _ ht => ?_
        have e1 : c ||| (t ||| 2 ^ node) = c ||| 2 ^ node ||| t := by rw [Nat.or_comm t, Nat.or_assoc]
        have e2 : nclr (r ||| 2 ^ node) (t ||| 2 ^ node) = nclr r t := by
          apply Nat.eq_of_testBit_eq
          intro j
          simp only [testBit_nclr, Nat.testBit_or, bit_two_pow]
          by_cases hj : node = j
          · subst hj; simp [hbn]
          · simp [hj]
        rw [e1, e2]
      · have e0 : ∀ l, after F (lab (c :: cs) node (l + 1)) r k = subS (fun t => if F (c ||| t) = true then after F (lab cs node l) (nclr r t) (k - 1) else 0) r (2 ^ n) := by
          intro l
          rw [lab_succ, after_cons, sumFrom_all _ hr]
          split
          · rfl
          · rename_i h2
            rw [lab_len] at h2
            split at h2
            · refine ((subS_congr (g := fun _ => 0) fun t _ _ => ?_).trans (subS_zero _ _)).symm
              rw [after_long F (by rw [lab_len]; split <;> omega)]
              simp
            · omega
        simp only [e0]
        rw [← subS_swap]
        refine subS_congr fun t _ ht => ?_
        rw [← sumTo_if]
        have htn : t.testBit node = false := by
          have h3 : (t &&& r).testBit node = t.testBit node := by rw [ht]
          rw [Nat.testBit_and, hbn] at h3
          simpa using h3.symm
        have e3 : nclr (r ||| 2 ^ node) t = nclr r t ||| 2 ^ node := by
          apply Nat.eq_of_testBit_eq
          intro j
          simp only [testBit_nclr, Nat.testBit_or, bit_two_pow]
          by_cases hj : node = j
          · subst hj; simp [htn]
          · simp [hj]
        rw [e3, after_split F hn hnode cs (nclr r t) (k - 1) (nclr_lt hr) fun j hj => by rw [testBit_nclr, hb j hj]; rfl]
    · rw [if_neg hk]
      refine (sumTo_cut (Nat.zero_le _) fun l _ _ => ?_).symm
      refine after_long F ?_
      rw [lab_len, List.length_cons]
      split <;> omega

/-! ### The plan of a number -/
/-- The label whose plans hold the i-th one of those from the label l on. -/
def findLab (g : Nat → Nat) : Nat → Nat → Nat → Option (Nat × Nat)
  | 0, _, _ => none
  | f + 1, l, i => if i < g l then some (l, i) else findLab g f (l + 1) (i - g l)
/-- The nodes behind a node. -/
def above (n node : Nat) : Nat := 2 ^ n - 2 ^ (node + 1)
def planAt (F : Nat → Bool) (n k : Nat) : Nat → Nat → List Nat → Nat → List Nat
  | 0, _, _, _ => []
  | m + 1, node, cs, i => match findLab (fun l => after F (lab cs node l) (above n node) k) (cs.length + 1) 0 i with
    | some (l, j) => l :: planAt F n k m (node + 1) (lab cs node l) j
    | none => []
theorem above_bit {n m : Nat} (h : m ≤ n) (j : Nat) : (2 ^ n - 2 ^ m).testBit j = (decide (m ≤ j) && decide (j < n)) := by
  have e : 2 ^ n - 2 ^ m = 2 ^ m * (2 ^ (n - m) - 1) := by
    rw [Nat.mul_sub, ← Nat.pow_add, show m + (n - m) = n by omega, Nat.mul_one]
  rw [e, Nat.testBit_two_pow_mul]
  by_cases h1 : m ≤ j
  · rw [Nat.testBit_two_pow_sub_one]
    have : j - m < n - m ↔ j < n := by omega
    simp [h1, this]
  · simp [h1]
theorem above_or {n node : Nat} (h : node < n) : above n node ||| 2 ^ node = 2 ^ n - 2 ^ node := by
  apply Nat.eq_of_testBit_eq
  intro j
  rw [Nat.testBit_or, above, above_bit (by omega), above_bit (by omega), bit_two_pow]
  by_cases h1 : node = j
  · subst h1; simp [h]
  · have : node + 1 ≤ j ↔ node ≤ j := by omega
    simp [h1, this]
theorem above_lt (n node : Nat) : above n node < 2 ^ n := by
  have h1 : 0 < 2 ^ n := Nat.pow_pos (by omega)
  have h2 : 0 < 2 ^ (node + 1) := Nat.pow_pos (by omega)
  unfold above; omega
theorem above_low {n node : Nat} (h : node < n) (j : Nat) (hj : j ≤ node) : (above n node).testBit j = false := by
  rw [above, above_bit (by omega)]; simp; omega
/-- The plans by the label of a node. -/
theorem after_labels (F : Nat → Bool) {n : Nat} (hn : n ≤ 64) {node : Nat} (hnode : node < n) (cs : List Nat) (k : Nat) : after F cs (2 ^ n - 2 ^ node) k = sumTo (fun l => after F (lab cs node l) (above n node) k) (cs.length + 1) := by
  rw [← above_or hnode]
  exact after_split F hn hnode cs _ _ (above_lt n node) (above_low hnode)
theorem sumTo_add_len (g : Nat → Nat) (l : Nat) : ∀ f, sumTo g (l + f) = sumTo g l + sumTo (fun i => g (l + i)) f
  | 0 => rfl
  | f + 1 => by rw [← Nat.add_assoc, sumTo, sumTo_add_len g l f, sumTo]; omega
theorem findLab_some (g : Nat → Nat) : ∀ (f l i : Nat), i < sumTo (fun j => g (l + j)) f → ∃ m j, findLab g f l i = some (m, j) ∧ l ≤ m ∧ m < l + f ∧ j < g m ∧ i = j + sumTo (fun x => g (l + x)) (m - l)
  | 0, l, i, h => by simp [sumTo] at h
  | f + 1, l, i, h => by
    unfold findLab
    by_cases hi : i < g l
    · rw [if_pos hi]; exact ⟨l, i, rfl, Nat.le_refl _, by omega, hi, by simp [sumTo]⟩
    · rw [if_neg hi]
      rw [sumTo_shift, Nat.add_zero] at h
      have e : (fun x => g (l + (x + 1))) = fun x => g (l + 1 + x) := funext fun x => by rw [show l + (x + 1) = l + 1 + x by omega]
      rw [e] at h
      obtain ⟨m, j, h1, h2, h3, h4, h5⟩ := findLab_some g f (l + 1) (i - g l) (by omega)
      refine ⟨m, j, h1, by omega, by omega, h4, ?_⟩
      rw [show m - l = (m - (l + 1)) + 1 by omega, sumTo_shift, Nat.add_zero, e]
      omega
end Go.Id

/-! Counting plans: what depends on sets below 2^n alone; connected sets, computed. -/
namespace Go.Id

theorem sumFrom_congr {f g : Nat → Nat} {m : Nat} (h : ∀ t, t &&& m = t → f t = g t) : sumFrom f m m = sumFrom g m m := by
  rw [sumFrom_all f (Nat.lt_succ_self m), sumFrom_all g (Nat.lt_succ_self m)]
  exact subS_congr fun t _ ht => h t ht
theorem sub_lt {t m N : Nat} (h : t &&& m = t) (hm : m < N) : t < N := by
  have : t &&& m ≤ m := Nat.and_le_right
  omega
theorem ways_congr {F G : Nat → Bool} {n : Nat} (hFG : ∀ s, s < 2 ^ n → F s = G s) : ∀ (k s : Nat), s < 2 ^ n → ways F k s = ways G k s
  | 0, s, _ => rfl
  | k + 1, s, hs => by
    rw [ways, ways]
    split
    · rfl
    · have hr : nclr s (lowM s) < 2 ^ n := nclr_lt hs
      have hl : lowM s < 2 ^ n := Nat.lt_of_le_of_lt Nat.and_le_left hs
      refine sumFrom_congr fun t ht => ?_
      rw [hFG _ (Nat.or_lt_two_pow (sub_lt ht hr) hl), ways_congr hFG k _ (nclr_lt (nclr_lt hs))]
theorem after_congr {F G : Nat → Bool} {n : Nat} (hFG : ∀ s, s < 2 ^ n → F s = G s) : ∀ (cs : List Nat) (r k : Nat), (∀ c ∈ cs, c < 2 ^ n) → r < 2 ^ n → after F cs r k = after G cs r k
  | [], r, k, _, hr => ways_congr hFG k r hr
  | c :: cs, r, k, hc, hr => by
    rw [after_cons, after_cons]
    split
    · refine sumFrom_congr fun t ht => ?_
      rw [hFG _ (Nat.or_lt_two_pow (hc c (by simp)) (sub_lt ht hr)), after_congr hFG cs _ _ (fun d hd => hc d (by simp [hd])) (nclr_lt hr)]
    · rfl
theorem findLab_congr {g h : Nat → Nat} : ∀ (f l i : Nat), (∀ x, g x = h x) → findLab g f l i = findLab h f l i
  | 0, _, _, _ => rfl
  | f + 1, l, i, e => by rw [findLab, findLab, e, findLab_congr f _ _ e]
theorem planAt_congr {F G : Nat → Bool} {n : Nat} (hFG : ∀ s, s < 2 ^ n → F s = G s) (k : Nat) : ∀ (m node : Nat) (cs : List Nat) (i : Nat), node + m ≤ n → (∀ c ∈ cs, c < 2 ^ n) → planAt F n k m node cs i = planAt G n k m node cs i
  | 0, _, _, _, _, _ => rfl
  | m + 1, node, cs, i, hn, hc => by
    rw [planAt, planAt, findLab_congr (h := fun l => after G (lab cs node l) (above n node) k) _ _ _ fun x => after_congr hFG _ _ _ (lab_mem (by omega) hc) (above_lt n node)]
    cases hf : findLab (fun l => after G (lab cs node l) (above n node) k) (cs.length + 1) 0 i with
    | none => rfl
    | some p => simp only; rw [planAt_congr hFG k m (node + 1) _ _ (by omega) (lab_mem (by omega) hc)]

/-! ### Connected sets, computed -/
def nextC (adj : Nat → Nat) (set R : Nat) : Nat → Nat
  | 0 => R
  | n + 1 => if R.testBit n then nextC adj set R n ||| (adj n &&& set) else nextC adj set R n
theorem nextC_bit (adj : Nat → Nat) (set R : Nat) : ∀ (n j : Nat), (nextC adj set R n).testBit j = true ↔ R.testBit j = true ∨ ∃ i, i < n ∧ R.testBit i = true ∧ (adj i).testBit j = true ∧ set.testBit j = true
  | 0, j => by simp [nextC]
  | n + 1, j => by
    unfold nextC
    have ih := nextC_bit adj set R n j
    split
    · rename_i h
      rw [Nat.testBit_or, Bool.or_eq_true, ih, Nat.testBit_and, Bool.and_eq_true]
      constructor
      · rintro ((h1 | ⟨i, h1, h2⟩) | h1)
        · exact .inl h1
        · exact .inr ⟨i, by omega, h2⟩
        · exact .inr ⟨n, by omega, h, h1⟩
      · rintro (h1 | ⟨i, h1, h2⟩)
        · exact .inl (.inl h1)
        · by_cases hi : i = n
          · subst hi; exact .inr h2.2
          · exact .inl (.inr ⟨i, by omega, h2⟩)
    · rename_i h
      rw [ih]
      constructor
      · rintro (h1 | ⟨i, h1, h2⟩)
        · exact .inl h1
        · exact .inr ⟨i, by omega, h2⟩
      · rintro (h1 | ⟨i, h1, h2⟩)
        · exact .inl h1
        · by_cases hi : i = n
          · subst hi; exact absurd h2.1 h
          · exact .inr ⟨i, by omega, h2⟩
theorem nextC_next {adj : Nat → Nat} {set R n : Nat} (h : R < 2 ^ n) : Next adj set R (nextC adj set R n) := ⟨fun j => by
  rw [nextC_bit]
  refine or_congr Iff.rfl ⟨fun ⟨i, _, h2⟩ => ⟨i, h2⟩, fun ⟨i, h2⟩ => ⟨i, ?_, h2⟩⟩
  refine Nat.lt_of_not_le fun hi => ?_
  have := Nat.testBit_lt_two_pow (Nat.lt_of_lt_of_le h (Nat.pow_le_pow_right (by omega) hi))
  rw [this] at h2
  exact absurd h2.1 (by simp)⟩
/-- What is reached, if some rounds are enough. -/
def reachC (adj : Nat → Nat) (set n : Nat) : Nat → Nat → Option Nat
  | 0, _ => none
  | f + 1, R => if nextC adj set R n = R then some R else reachC adj set n f (nextC adj set R n)
theorem reachC_flood {adj : Nat → Nat} {set n k : Nat} (hs : set < 2 ^ n) : ∀ (f R S : Nat), Part adj set k R → reachC adj set n f R = some S → Flood adj set k S
  | 0, _, _, _, h => by cases h
  | f + 1, R, S, hp, h => by
    have hR : R < 2 ^ n := Nat.lt_of_le_of_lt hp.sub.le hs
    have hn := nextC_next (adj := adj) (set := set) hR
    unfold reachC at h
    split at h
    · rename_i he
      cases h
      rw [he] at hn
      exact hp.flood hn
    · exact reachC_flood hs f _ S (hp.next hn).1 h
/-- The lowest node. -/
def lowC (s : Nat) : Nat → Option Nat
  | 0 => none
  | n + 1 => match lowC s n with
    | some k => some k
    | none => if s.testBit n then some n else none
theorem lowC_none (s : Nat) : ∀ n, lowC s n = none → ∀ j, j < n → s.testBit j = false
  | 0, _, j, h => by omega
  | n + 1, h, j, hj => by
    unfold lowC at h
    cases hl : lowC s n with
    | some k => rw [hl] at h; cases h
    | none =>
      rw [hl] at h
      simp only at h
      split at h
      · cases h
      · rename_i hb
        by_cases hjn : j = n
        · subst hjn; simpa using hb
        · exact lowC_none s n hl j (by omega)
theorem lowC_low (s : Nat) : ∀ n k, lowC s n = some k → Low s k
  | 0, _, h => by cases h
  | n + 1, k, h => by
    unfold lowC at h
    cases hl : lowC s n with
    | some l => rw [hl] at h; cases h; exact lowC_low s n k hl
    | none =>
      rw [hl] at h
      simp only at h
      split at h
      · rename_i hb
        cases h
        exact ⟨hb, fun j hj => lowC_none s n hl j hj⟩
      · cases h
def connC (adj : Nat → Nat) (n set : Nat) : Option Bool := match lowC set n with
  | none => some false
  | some k => (reachC adj set n (n + 1) (2 ^ k)).map fun R => R == set
theorem connC_conn {adj : Nat → Nat} {n set : Nat} (hs : set < 2 ^ n) {b : Bool} (h : connC adj n set = some b) : Conn adj set ↔ b = true := by
  unfold connC at h
  cases hl : lowC set n with
  | none =>
    rw [hl] at h; cases h
    constructor
    · rintro ⟨k, hk, _⟩
      by_cases hkn : k < n
      · have := lowC_none set n hl k hkn
        rw [hk.1] at this; cases this
      · have := Nat.testBit_lt_two_pow (Nat.lt_of_lt_of_le hs (Nat.pow_le_pow_right (n := 2) (by omega) (show n ≤ k by omega)))
        rw [hk.1] at this; cases this
    · intro h; cases h
  | some k =>
    rw [hl] at h
    have hlow := lowC_low set n k hl
    simp only [Option.map_eq_some_iff] at h
    obtain ⟨R, h1, h2⟩ := h
    have hF := reachC_flood hs (n + 1) _ R (Part.start hlow.1) h1
    rw [hF.conn hlow, ← h2, beq_iff_eq]
end Go.Id

/-! Contracts: enumerate. Classes in which a node has a label. -/
namespace Go.Id
open Go

theorem c64_ok (cs : List Nat) : (c64 cs).all cellOK = true := by
  rw [List.all_eq_true]
  intro x hx
  obtain ⟨c, _, rfl⟩ := List.mem_map.1 hx
  rfl
theorem labelled_ok {h : IH} {v : Value} {cs : List Nat} (hv : SlOf h 1 v cs.length (c64 cs)) (hne : v = .slice none 0 0 ∨ 0 < cs.length) (hl : cs.length ≤ 1000) (hcs : ∀ c ∈ cs, c < 18446744073709551616) {node label : Nat} (hn : node < 64) (hlab : label ≤ cs.length) :
    WV Proofs.Tryd.prog (.func (.func 59) #[] #[]) [v, KI node, KI label] h fun r h' => Ext h h' ∧ SlOf h' 1 r (lab cs node label).length (c64 (lab cs node label)) := by
  refine enter (nt := 26) (rs := [.tmp 6]) Proofs.Tryd.func59 rfl rfl rfl (by simp) ?_
  simp -dsimp (maxSteps := 1000000) (disch := first | omega | (simp only [new_n, put_n]; omega) | decide +kernel | (repeat first | rw [new_n] | rw [put_n])) only [wpS, wpT, Nat.reduceEqDiff, reduceIte, Nat.reduceLT, Nat.reduceLeDiff, Nat.reduceAdd, Nat.reduceMul, Nat.reduceBEq, Int.reduceToNat, bs38, es38, ld47, st47, ln38, ba38_38]
  refine call (clone64_ok hv hne (c64_ok cs) (by omega)) ?_
  rintro r h1 ⟨hE1, hA1⟩
  have hp : 2 ^ node < 2 ^ 64 := Nat.pow_lt_pow_right (by omega) (by omega)
  have p0 : 0 ≤ ((2 ^ node : Nat) : Int) := Int.natCast_nonneg _
  simp -dsimp (maxSteps := 1000000) (disch := first | omega | (simp only [new_n, put_n]; omega) | decide +kernel | (repeat first | rw [new_n] | rw [put_n])) only [wpS, wpT, Nat.reduceEqDiff, reduceIte, Nat.reduceLT, Nat.reduceLeDiff, Nat.reduceAdd, Nat.reduceMul, Nat.reduceBEq, Int.reduceToNat, bs38, es38, ld47, st47, ln38, ba38_38, hA1.sl.len sl38]
  refine bq_intro ?_ ?_ <;> intro hc
  · simp at hc
    obtain rfl : label = cs.length := by omega
    obtain ⟨r2, h2, hap, hA2, hG2, hE2⟩ := hA1.app1 (P := Proofs.Tryd.prog) (t := 38) ap38 (x := .int .u64 0) rfl (by omega) hE1.n hE1 (Nat.le_refl _)
    obtain ⟨h3, hst, hA3, hE3, hn3⟩ := hA2.set (P := Proofs.Tryd.prog) (t := 47) sz47 (i := cs.length) (x := K64 (2 ^ node)) (by omega) rfl rfl hE2 (Nat.le_refl _)
    have hi2 := hA2.sl.idx (P := Proofs.Tryd.prog) es38 (k := .i64) (j := cs.length) (by omega)
    have hld := hA2.sl.ld (Keep.refl _) (c := cs.length) (by simp [c64]) (P := Proofs.Tryd.prog) (t := 47) ag47
    rw [Nat.mul_one] at hi2
    have hg : (c64 cs ++ [.int .u64 0])[cs.length]? = some (.int .u64 0) := by simp [c64]
    rw [hg] at hld
    have e1 : (0 : Nat) ||| 2 ^ node = 2 ^ node := Nat.zero_or _
    simp -dsimp (maxSteps := 1000000) (disch := first | omega | (simp only [new_n, put_n]; omega) | decide +kernel | (repeat first | rw [new_n] | rw [put_n])) only [wpS, wpT, Nat.reduceEqDiff, reduceIte, Nat.reduceLT, Nat.reduceLeDiff, Nat.reduceAdd, Nat.reduceMul, Nat.reduceBEq, Int.reduceToNat, bs38, es38, ld47, st47, ln38, ba38_38, hap, hi2, hld, e1, hst]
    have e2 : lab cs node cs.length = cs ++ [2 ^ node] := by simp [lab]
    have e3 : c64 (lab cs node cs.length) = (c64 cs ++ [Value.int .u64 0]).set cs.length (K64 (2 ^ node)) := by
      rw [e2, List.set_append, if_neg (by simp [c64])]
      simp [c64]
    refine ⟨hE3, ?_⟩
    rw [e3, e2, List.length_append]
    exact hA3.sl
  · simp at hc
    have hlt : label < cs.length := by omega
    have hgl : (c64 cs)[label]? = some (K64 (cs.getD label 0)) := by simp [c64, hlt]
    have hcl : cs.getD label 0 < 18446744073709551616 := hcs _ (by simp [hlt])
    obtain ⟨h3, hst, hA3, hE3, hn3⟩ := hA1.set (P := Proofs.Tryd.prog) (t := 47) sz47 (i := label) (x := K64 (cs.getD label 0 ||| 2 ^ node)) hlt rfl rfl hE1 (Nat.le_refl _)
    have hi2 := hA1.sl.idx (P := Proofs.Tryd.prog) es38 (k := .i64) (j := label) hlt
    have hld := hA1.sl.ld (Keep.refl _) (c := label) (by simp [c64]; omega) (P := Proofs.Tryd.prog) (t := 47) ag47
    rw [Nat.mul_one] at hi2
    rw [hgl] at hld
    simp -dsimp (maxSteps := 1000000) (disch := first | omega | (simp only [new_n, put_n]; omega) | decide +kernel | (repeat first | rw [new_n] | rw [put_n])) only [wpS, wpT, Nat.reduceEqDiff, reduceIte, Nat.reduceLT, Nat.reduceLeDiff, Nat.reduceAdd, Nat.reduceMul, Nat.reduceBEq, Int.reduceToNat, bs38, es38, ld47, st47, ln38, ba38_38, hi2, hld, hst]
    have e2 : lab cs node label = cs.set label (cs.getD label 0 ||| 2 ^ node) := by rw [lab, if_neg (by omega)]
    have e3 : c64 (lab cs node label) = (c64 cs).set label (K64 (cs.getD label 0 ||| 2 ^ node)) := by rw [e2, c64, c64, List.map_set]
    refine ⟨hE3, ?_⟩
    rw [e3, e2, List.length_set]
    exact hA3.sl
end Go.Id
