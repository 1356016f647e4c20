/-
  Counting plans: complete graphs, and graphs without edges. Counting plans of a part: the induced graph's districts. The induced graph is a graph. The places of a part's nodes, as a map. Contract: graph.Induced.
-/
import Derived.Test.YtcmfdbjgimekbaaDoorEnumeratePartsAp
import Derived.Test.YtcmfdbjgimekbaaDoorEnumeratePartsAk
import Derived.Test.YtcmfdbjgimekbaaDoorEnumeratePartsAl
import Derived.Test.YtcmfdbjgimekbaaDoorEnumeratePartsAm
set_option linter.unusedVariables false
set_option linter.unusedSimpArgs false
set_option linter.defProp false
set_option linter.deprecated false
/-! Counting plans: complete graphs, and graphs without edges. -/
namespace Go.Id
open Go

theorem pop_top : ∀ (m s : Nat), pop (m + 1) s = pop m s + if s.testBit m then 1 else 0
  | 0, s => by
    rw [pop, pop, pop, Nat.testBit_zero]
    rcases Nat.mod_two_eq_zero_or_one s with h | h <;> simp [h]
  | m + 1, s => by
    rw [pop, pop_top m (s / 2), Nat.testBit_div_two, pop]; omega
theorem weight_ones (s N : Nat) : ∀ m, m ≤ N → weightTo (List.replicate N 1) s m = pop m s
  | 0, _ => rfl
  | m + 1, h => by
    have : (List.replicate N (1 : Int)).getD m 0 = 1 := by
      rw [List.getD, List.getElem?_replicate, if_pos (by omega)]; rfl
    rw [weightTo, weight_ones s N m (by omega), pop_top, this]
    split <;> simp
def fullE (n : Nat) : List (Nat × Nat) := (List.range n).flatMap fun a => (List.range (n - (a + 1))).map fun d => (a, a + 1 + d)
def adjFull (n : Nat) : Bool := (List.range n).all fun i => (List.range n).all fun j => i == j || (adjOf (fullE n) i).testBit j
theorem full_conn {n s : Nat} (h : adjFull n = true) (h0 : 0 < s) (hs : s < 2 ^ n) : Conn (adjOf (fullE n)) s := by
  have inn : ∀ j, s.testBit j = true → j < n := fun j hj => by
    refine Nat.lt_of_not_le fun hh => ?_
    rw [Nat.testBit_lt_two_pow (Nat.lt_of_lt_of_le hs (Nat.pow_le_pow_right (by omega) hh))] at hj
    cases hj
  obtain ⟨k, hk⟩ := low_exists h0
  refine ⟨k, hk, fun T hT hc j hj => ?_⟩
  by_cases hjk : k = j
  · subst hjk; exact hT
  · refine hc k j hT ?_ hj
    have h1 := List.all_eq_true.1 h k (by simpa using inn k hk.1)
    have h2 := List.all_eq_true.1 h1 j (by simpa using inn j hj)
    simpa [hjk] using h2
theorem pop_pos_iff {n s : Nat} (hs : s < 2 ^ n) : 0 < pop n s ↔ 0 < s := by
  constructor
  · intro h
    rcases Nat.eq_zero_or_pos s with h0 | h0
    · rw [h0, pop_zero] at h; omega
    · exact h0
  · intro h; exact pop_pos hs (by omega)
/-- A district of a complete graph, by size. -/
def fitS (lo hi : Nat) (j : Nat) : Bool := decide (0 < j ∧ lo ≤ j ∧ j ≤ hi)
theorem fits_full {n : Nat} (h : adjFull n = true) (lo hi : Nat) : ∀ s, s < 2 ^ n → fitsB (fullE n) (List.replicate n 1) lo hi s = fitS lo hi (pop n s) := by
  intro s hs
  unfold fitsB fitS
  rw [List.length_replicate, weight_ones s n n (Nat.le_refl _)]
  apply decide_eq_decide.2
  rw [pop_pos_iff hs]
  constructor
  · rintro ⟨h1, h2, h3, _⟩; exact ⟨h1, by omega, by omega⟩
  · rintro ⟨h1, h2, h3⟩; exact ⟨h1, by omega, by omega, full_conn h h1 hs⟩
theorem fits_none {n : Nat} : ∀ s, s < 2 ^ n → fitsB [] (List.replicate n 1) (1 : Nat) (1 : Nat) s = fitS 1 1 (pop n s) := by
  intro s hs
  unfold fitsB fitS
  rw [List.length_replicate, weight_ones s n n (Nat.le_refl _)]
  apply decide_eq_decide.2
  constructor
  · rintro ⟨h1, h2, h3, _⟩; exact ⟨by omega, by omega, by omega⟩
  · rintro ⟨h1, h2, h3⟩
    have h0 := (pop_pos_iff hs).1 h1
    refine ⟨h0, by omega, by omega, ?_⟩
    obtain ⟨k, hk⟩ := low_exists h0
    refine ⟨k, hk, fun T hT hc j hj => ?_⟩
    have e1 : 2 ^ k &&& s = 2 ^ k := by
      apply Nat.eq_of_testBit_eq
      intro i
      rw [Nat.testBit_and, bit_two_pow]
      by_cases hi : k = i
      · subst hi; simp [hk.1]
      · simp [hi]
    have hkn : k < n := by
      refine Nat.lt_of_not_le fun hh => ?_
      have := Nat.testBit_lt_two_pow (Nat.lt_of_lt_of_le hs (Nat.pow_le_pow_right (by omega) hh))
      rw [hk.1] at this; cases this
    have e2 := pop_clr n s _ e1
    rw [pop_two hkn] at e2
    have e3 : nclr s (2 ^ k) = 0 := by
      rcases Nat.eq_zero_or_pos (nclr s (2 ^ k)) with h4 | h4
      · exact h4
      · have := pop_pos (n := n) (nclr_lt hs) (show nclr s (2 ^ k) ≠ 0 by omega)
        omega
    have e4 := congrArg (fun x => x.testBit j) e3
    simp only [testBit_nclr, bit_two_pow, Nat.zero_testBit, hj, Bool.true_and] at e4
    by_cases hkj : k = j
    · subst hkj; exact hT
    · simp [hkj] at e4
theorem total_pop {n : Nat} {E : List (Nat × Nat)} {ws : List Int} {lo hi : Int} {f : Nat → Bool} (hn : n ≤ 64) (hF : ∀ s, s < 2 ^ n → fitsB E ws lo hi s = f (pop n s)) (k : Nat) : totalP n E ws lo hi k = aP f [] n k := by
  have : 0 < 2 ^ n := Nat.pow_pos (by omega)
  have hp : pop n (2 ^ n - 1) = n := by
    have key : ∀ n : Nat, pop n (2 ^ n - 1) = n := by
      intro n
      induction n with
      | zero => rfl
      | succ n ih =>
        have hpos : 0 < 2 ^ n := Nat.pow_pos (by omega)
        rw [pop, Nat.pow_succ, show (2 ^ n * 2 - 1) % 2 = 1 by omega, show (2 ^ n * 2 - 1) / 2 = 2 ^ n - 1 by omega, ih]; omega
    exact key n
  have h := after_pop hn hF [] (2 ^ n - 1) k (by omega) fun c hc => by cases hc
  rw [hp] at h
  exact h
theorem plan_pop0 {n : Nat} {E : List (Nat × Nat)} {ws : List Int} {lo hi : Int} {f : Nat → Bool} (hn : n ≤ 64) (hF : ∀ s, s < 2 ^ n → fitsB E ws lo hi s = f (pop n s)) (k i : Nat) : planAt (fitsB E ws lo hi) n k n 0 [] i = planP f n k n 0 [] i :=
  plan_pop hn hF k n 0 [] i (by omega) fun c hc => by cases hc
theorem idx_pop0 {n : Nat} {E : List (Nat × Nat)} {ws : List Int} {lo hi : Int} {f : Nat → Bool} (hn : n ≤ 64) (hF : ∀ s, s < 2 ^ n → fitsB E ws lo hi s = f (pop n s)) {k : Nat} {p : List Int} {B : Nat} {S : List Nat} (hp : p.length = n) (h : idxP f n k 0 [] 0 p = some (B, S)) (h1 : aP f S 0 k = 1) :
    idxV (fitsB E ws lo hi) n k p = .tuple #[wideV B, KI 0] := by
  obtain ⟨cs, h2, h3, h4⟩ := idx_pop hn hF k p 0 [] 0 B S (by omega) (fun c hc => by cases hc) h
  refine idxV_of hp h2 ?_
  have h5 := after_pop hn hF cs 0 k (Nat.pow_pos (by omega)) fun c hc => ⟨by have := h4 c hc; rwa [Nat.zero_add, hp] at this, Nat.and_zero c⟩
  rw [h5, h3, pop_zero, h1]

/-! ### The numbers of EnumerateKnown -/
theorem adj5 : adjFull 5 = true := by decide +kernel
theorem adj6 : adjFull 6 = true := by decide +kernel
theorem adj7 : adjFull 7 = true := by decide +kernel
theorem adj12 : adjFull 12 = true := by decide +kernel
theorem gr5 : graphErr (5 : Nat) (castE (fullE 5)) = 0 := by decide +kernel
theorem gr6 : graphErr (6 : Nat) (castE (fullE 6)) = 0 := by decide +kernel
theorem gr7 : graphErr (7 : Nat) (castE (fullE 7)) = 0 := by decide +kernel
theorem gr12 : graphErr (12 : Nat) (castE (fullE 12)) = 0 := by decide +kernel
theorem gr0 : graphErr (12 : Nat) (castE []) = 0 := by decide +kernel
theorem gr08 : graphErr (8 : Nat) (castE []) = 0 := by decide +kernel
theorem gr01 : graphErr (1 : Nat) (castE []) = 0 := by decide +kernel
theorem ones_all (n : Nat) : ∀ w ∈ List.replicate n (1 : Int), 0 ≤ w ∧ w ≤ 1000000000 := fun w hw => by
  obtain rfl := List.eq_of_mem_replicate hw; decide
theorem en_ok {n : Nat} {E : List (Nat × Nat)} (hg : graphErr n (castE E) = 0) (hn : n ≤ 12) {lo hi : Int} {k : Nat} (h : 1 ≤ k ∧ k ≤ 8 ∧ 0 ≤ lo ∧ lo ≤ hi) : enErr n (castE E) (List.replicate n 1) lo hi k = 0 := by
  rw [enErr, if_pos hg, if_pos (by omega), if_pos ⟨by simp, ones_all n, by omega⟩]
theorem total6 (k : Nat) : totalP 6 (fullE 6) (List.replicate 6 1) (0 : Nat) (6 : Nat) k = aP (fitS 0 6) [] 6 k := total_pop (by decide) (fits_full adj6 0 6) k
theorem totals6 : [1, 2, 3, 4, 5, 6].map (aP (fitS 0 6) [] 6) = [1, 31, 90, 65, 15, 1] := by decide +kernel
theorem total12a : totalP 12 (fullE 12) (List.replicate 12 1) (0 : Nat) (12 : Nat) 4 = 611501 := by rw [total_pop (by decide) (fits_full adj12 0 12)]; decide +kernel
theorem total12b : totalP 12 (fullE 12) (List.replicate 12 1) (3 : Nat) (3 : Nat) 4 = 15400 := by rw [total_pop (by decide) (fits_full adj12 3 3)]; decide +kernel
theorem total12c : totalP 12 [] (List.replicate 12 1) (1 : Nat) (1 : Nat) 8 = 0 := by rw [total_pop (by decide) fits_none]; decide +kernel
theorem total8 : totalP 8 [] (List.replicate 8 1) (1 : Nat) (1 : Nat) 8 = 1 := by rw [total_pop (by decide) fits_none]; decide +kernel
theorem total7 : totalP 7 (fullE 7) (List.replicate 7 1) (0 : Nat) (7 : Nat) 3 = 301 := by rw [total_pop (by decide) (fits_full adj7 0 7)]; decide +kernel
theorem plan12 : planAt (fitsB (fullE 12) (List.replicate 12 1) (0 : Nat) (12 : Nat)) 12 4 12 0 [] 611500 = [0, 1, 2, 3, 3, 3, 3, 3, 3, 3, 3, 3] := by rw [plan_pop0 (by decide) (fits_full adj12 0 12)]; decide +kernel
theorem idxF12 : idxV (fitsB (fullE 12) (List.replicate 12 1) (0 : Nat) (12 : Nat)) 12 4 [0, 1, 2, 3, 3, 3, 3, 3, 3, 3, 3, 3] = .tuple #[wideV 611500, KI 0] :=
  idx_pop0 (B := 611500) (S := [1, 1, 1, 9]) (by decide) (fits_full adj12 0 12) rfl (by decide +kernel) (by decide +kernel)
theorem dist5 : distL (fitsB (fullE 5) (List.replicate 5 1) (2 : Nat) (2 : Nat)) (2 ^ 5) = [3, 5, 6, 9, 10, 12, 17, 18, 20, 24] := by
  have : distL (fitsB (fullE 5) (List.replicate 5 1) (2 : Nat) (2 : Nat)) (2 ^ 5) = distL (fun s => fitS 2 2 (pop 5 s)) (2 ^ 5) := List.filter_congr fun s hs => fits_full adj5 2 2 s (by simpa using hs)
  rw [this]; decide +kernel
theorem one_a : plansP 1 [] (List.replicate 1 1) 0 1 1 = [[0]] := by rw [plansP_tab (T := 2) (by decide +kernel)]; decide +kernel
theorem one_b : plansP 1 [] (List.replicate 1 1) 0 1 2 = [] := by rw [plansP_tab (T := 2) (by decide +kernel)]; decide +kernel
theorem one_c : plansP 4 pathE (List.replicate 4 1) 5 9 1 = [] := by rw [plansP_tab (T := 0) (by decide +kernel)]; decide +kernel
theorem one_d : plansP 4 pathE (List.replicate 4 1) 0 4 1 = [[0, 0, 0, 0]] := by rw [plansP_tab (T := 53726) (by decide +kernel)]; decide +kernel
theorem path_bad1 : idxV (fitsB pathE one4 1 3) 4 2 [0, 0, 0, 0] = .tuple #[wdV 0, KI 2] := by
  rw [idxV_tab path13]
  exact idxV_bad (b := 0) (cs := [15]) (by decide +kernel) (by decide +kernel)
theorem path_bad2 : idxV (fitsB pathE one4 1 3) 4 2 [0, 1, 0, 1] = .tuple #[wdV 0, KI 2] := by
  rw [idxV_tab path13]
  exact idxV_bad (b := 2) (cs := [5, 10]) (by decide +kernel) (by decide +kernel)
theorem path_bad3 : idxV (fitsB pathE one4 1 3) 4 2 [0, 0, 2, 1] = .tuple #[wdV 0, KI 2] := by
  rw [idxV_tab path13]
  exact idxV_no (by decide +kernel)
theorem path_bad0 : idxV (fitsB pathE one4 1 3) 4 2 [0, 0, 1] = .tuple #[wdV 0, KI 2] := by
  rw [idxV, if_neg (by decide)]
end Go.Id

/-! Counting plans of a part: the induced graph's districts. -/
namespace Go.Id
open Go

/-- The place of a node of R is the number of R's nodes below it: pop v R. -/
theorem dep_bit : ∀ {n R u v : Nat}, v < n → (dep n R u).testBit v = (R.testBit v && u.testBit (pop v R))
  | 0, _, _, _, h => by omega
  | n + 1, R, u, v, h => by
    by_cases hR : R % 2 = 1
    · rw [dep_odd hR]
      cases v with
      | zero =>
        rw [pop, Nat.testBit_zero, Nat.testBit_zero, Nat.testBit_zero, hR, show (2 * dep n (R / 2) (u / 2) + u % 2) % 2 = u % 2 by omega]; simp
      | succ v =>
        rw [Nat.testBit_succ, Nat.testBit_succ, show (2 * dep n (R / 2) (u / 2) + u % 2) / 2 = dep n (R / 2) (u / 2) by omega, dep_bit (by omega), pop_odd hR, Nat.testBit_succ]
    · rw [dep_even hR]
      cases v with
      | zero => rw [Nat.testBit_zero, Nat.testBit_zero R, show ¬ (2 * dep n (R / 2) u) % 2 = 1 by omega |> decide_eq_false, decide_eq_false hR]; rfl
      | succ v => rw [Nat.testBit_succ, Nat.testBit_succ, show (2 * dep n (R / 2) u) / 2 = dep n (R / 2) u by omega, dep_bit (by omega), pop_even hR]
/-- The nodes of R below m, rising; the weights there. -/
def ndl (R m : Nat) : List Nat := (List.range m).filter fun v => R.testBit v
def wsR (ws : List Int) (R m : Nat) : List Int := (ndl R m).map fun v => ws.getD v 0
theorem ndl_succ (R m : Nat) : ndl R (m + 1) = ndl R m ++ (if R.testBit m = true then [m] else []) := by
  unfold ndl
  rw [List.range_succ, List.filter_append]
  congr 1
  by_cases h : R.testBit m = true <;> simp [h]
theorem ndl_len (R : Nat) : ∀ m, (ndl R m).length = pop m R
  | 0 => rfl
  | m + 1 => by
    rw [ndl_succ, List.length_append, ndl_len R m, pop_top]
    by_cases h : R.testBit m = true <;> simp [h]
theorem ndl_at {R : Nat} : ∀ {n v : Nat}, v < n → R.testBit v = true → (ndl R n)[pop v R]? = some v
  | 0, _, h, _ => by omega
  | n + 1, v, h, hb => by
    rw [ndl_succ]
    by_cases hv : v < n
    · have ih := ndl_at hv hb
      have hl : pop v R < (ndl R n).length := (List.getElem?_eq_some_iff.1 ih).1
      rw [List.getElem?_append_left hl]; exact ih
    · obtain rfl : v = n := by omega
      rw [← ndl_len, List.getElem?_append_right (Nat.le_refl _), Nat.sub_self, if_pos hb]; rfl
theorem wsR_len (ws : List Int) (R m : Nat) : (wsR ws R m).length = pop m R := by rw [wsR, List.length_map, ndl_len]
theorem weight_dep (ws : List Int) {R n u : Nat} : ∀ m, m ≤ n → weightTo (wsR ws R n) u (pop m R) = weightTo ws (dep n R u) m
  | 0, _ => rfl
  | m + 1, h => by
    have ih := weight_dep ws (R := R) (n := n) (u := u) m (by omega)
    rw [pop_top, weightTo, dep_bit (show m < n by omega), ← ih]
    by_cases hb : R.testBit m = true
    · rw [if_pos hb, weightTo, hb, Bool.true_and]
      congr 1
      have h1 : (wsR ws R n).getD (pop m R) 0 = ws.getD m 0 := by
        rw [List.getD, wsR, List.getElem?_map, ndl_at (by omega) hb]; rfl
      rw [h1]
    · rw [if_neg hb, Nat.add_zero]
      simp [hb]
/-- The places of a set's nodes. -/
def pex : Nat → Nat → Nat → Nat
  | 0, _, _ => 0
  | n + 1, R, T => if R % 2 = 1 then 2 * pex n (R / 2) (T / 2) + T % 2 else pex n (R / 2) (T / 2)
theorem pex_bit : ∀ {n R T v : Nat}, v < n → R.testBit v = true → (pex n R T).testBit (pop v R) = T.testBit v
  | 0, _, _, _, h, _ => by omega
  | n + 1, R, T, v, h, hb => by
    by_cases hR : R % 2 = 1
    · rw [pex, if_pos hR]
      cases v with
      | zero => rw [pop, Nat.testBit_zero, Nat.testBit_zero, show (2 * pex n (R / 2) (T / 2) + T % 2) % 2 = T % 2 by omega]
      | succ v => rw [pop_odd hR, Nat.testBit_succ, show (2 * pex n (R / 2) (T / 2) + T % 2) / 2 = pex n (R / 2) (T / 2) by omega, Nat.testBit_succ T, pex_bit (by omega) (by rw [← Nat.testBit_succ]; exact hb)]
    · rw [pex, if_neg hR]
      cases v with
      | zero => rw [Nat.testBit_zero, decide_eq_true_eq] at hb; omega
      | succ v => rw [pop_even hR, Nat.testBit_succ T, pex_bit (by omega) (by rw [← Nat.testBit_succ]; exact hb)]
theorem adj_bit (i j : Nat) : ∀ (E : List (Nat × Nat)) (a : Nat), (∀ e ∈ E, e.1 < e.2) → ((E.foldl (adjStep i) a).testBit j = true ↔ (a.testBit j = true ∨ ∃ e ∈ E, (e.1 = i ∧ e.2 = j) ∨ (e.2 = i ∧ e.1 = j)))
  | [], a, _ => by simp
  | e :: E, a, h => by
    rw [List.foldl_cons, adj_bit i j E _ fun x hx => h x (List.mem_cons_of_mem _ hx)]
    have h12 := h e (List.mem_cons_self ..)
    unfold adjStep
    by_cases h1 : i = e.1
    · rw [if_pos h1, Nat.testBit_or, bit_two_pow]
      constructor
      · rintro (h3 | ⟨x, hx, h3⟩)
        · rw [Bool.or_eq_true, decide_eq_true_eq] at h3
          rcases h3 with h3 | h3
          · exact .inl h3
          · exact .inr ⟨e, List.mem_cons_self .., .inl ⟨h1.symm, h3⟩⟩
        · exact .inr ⟨x, List.mem_cons_of_mem _ hx, h3⟩
      · rintro (h3 | ⟨x, hx, h3⟩)
        · exact .inl (by rw [h3]; rfl)
        · rcases List.mem_cons.1 hx with rfl | hx
          · rcases h3 with ⟨_, h3⟩ | ⟨h3, _⟩
            · exact .inl (by rw [decide_eq_true h3, Bool.or_true])
            · omega
          · exact .inr ⟨x, hx, h3⟩
    · rw [if_neg h1]
      by_cases h2 : i = e.2
      · rw [if_pos h2, Nat.testBit_or, bit_two_pow]
        constructor
        · rintro (h3 | ⟨x, hx, h3⟩)
          · rw [Bool.or_eq_true, decide_eq_true_eq] at h3
            rcases h3 with h3 | h3
            · exact .inl h3
            · exact .inr ⟨e, List.mem_cons_self .., .inr ⟨h2.symm, h3⟩⟩
          · exact .inr ⟨x, List.mem_cons_of_mem _ hx, h3⟩
        · rintro (h3 | ⟨x, hx, h3⟩)
          · exact .inl (by rw [h3]; rfl)
          · rcases List.mem_cons.1 hx with rfl | hx
            · rcases h3 with ⟨h3, _⟩ | ⟨_, h3⟩
              · omega
              · exact .inl (by rw [decide_eq_true h3, Bool.or_true])
            · exact .inr ⟨x, hx, h3⟩
      · rw [if_neg h2]
        constructor
        · rintro (h3 | ⟨x, hx, h3⟩)
          · exact .inl h3
          · exact .inr ⟨x, List.mem_cons_of_mem _ hx, h3⟩
        · rintro (h3 | ⟨x, hx, h3⟩)
          · exact .inl h3
          · rcases List.mem_cons.1 hx with rfl | hx
            · rcases h3 with ⟨h3, _⟩ | ⟨h3, _⟩
              · exact absurd h3.symm h1
              · exact absurd h3.symm h2
            · exact .inr ⟨x, hx, h3⟩
/-- The edges within R, numbered anew. -/
def indE (R : Nat) (E : List (Nat × Nat)) : List (Nat × Nat) := (E.filter fun e => R.testBit e.1 && R.testBit e.2).map fun e => (pop e.1 R, pop e.2 R)
theorem pop_lt_of {R : Nat} : ∀ {w v : Nat}, v < w → R.testBit v = true → pop v R < pop w R
  | 0, _, h, _ => by omega
  | w + 1, v, h, hb => by
    rw [pop_top]
    by_cases hv : v < w
    · have := pop_lt_of hv hb; omega
    · obtain rfl : v = w := by omega
      rw [if_pos hb]; omega
theorem pop_inj {R v w : Nat} (hv : R.testBit v = true) (hw : R.testBit w = true) (h : pop v R = pop w R) : v = w := by
  rcases Nat.lt_trichotomy v w with h1 | h1 | h1
  · have := pop_lt_of h1 hv; omega
  · exact h1
  · have := pop_lt_of h1 hw; omega
theorem ind_lt {R : Nat} {E : List (Nat × Nat)} (h : ∀ e ∈ E, e.1 < e.2) : ∀ e ∈ indE R E, e.1 < e.2 := by
  intro e he
  obtain ⟨x, hx, rfl⟩ := List.mem_map.1 he
  obtain ⟨hx1, hx2⟩ := List.mem_filter.1 hx
  rw [Bool.and_eq_true] at hx2
  exact pop_lt_of (h x hx1) hx2.1
theorem ind_adj {R : Nat} {E : List (Nat × Nat)} (h : ∀ e ∈ E, e.1 < e.2) {v w : Nat} (hv : R.testBit v = true) (hw : R.testBit w = true) : (adjOf (indE R E) (pop v R)).testBit (pop w R) = true ↔ (adjOf E v).testBit w = true := by
  unfold adjOf
  rw [adj_bit _ _ _ _ (ind_lt h), adj_bit _ _ _ _ h]
  simp only [Nat.zero_testBit, Bool.false_eq_true, false_or]
  constructor
  · rintro ⟨e, he, h3⟩
    obtain ⟨x, hx, rfl⟩ := List.mem_map.1 he
    obtain ⟨hx1, hx2⟩ := List.mem_filter.1 hx
    rw [Bool.and_eq_true] at hx2
    rcases h3 with ⟨h3, h4⟩ | ⟨h3, h4⟩
    · exact ⟨x, hx1, .inl ⟨pop_inj hx2.1 hv h3, pop_inj hx2.2 hw h4⟩⟩
    · exact ⟨x, hx1, .inr ⟨pop_inj hx2.2 hv h3, pop_inj hx2.1 hw h4⟩⟩
  · rintro ⟨x, hx1, h3⟩
    have hx2 : (R.testBit x.1 && R.testBit x.2) = true := by
      rcases h3 with ⟨h3, h4⟩ | ⟨h3, h4⟩ <;> rw [h3, h4, hv, hw] <;> rfl
    refine ⟨_, List.mem_map.2 ⟨x, List.mem_filter.2 ⟨hx1, hx2⟩, rfl⟩, ?_⟩
    rcases h3 with ⟨h3, h4⟩ | ⟨h3, h4⟩
    · exact .inl ⟨by rw [h3], by rw [h4]⟩
    · exact .inr ⟨by rw [h3], by rw [h4]⟩
theorem ind_node {R q : Nat} : ∀ {n : Nat}, q < pop n R → ∃ v, v < n ∧ R.testBit v = true ∧ pop v R = q
  | 0, h => by simp [pop] at h
  | n + 1, h => by
    rw [pop_top] at h
    by_cases hq : q < pop n R
    · obtain ⟨v, h1, h2, h3⟩ := ind_node hq
      exact ⟨v, by omega, h2, h3⟩
    · by_cases hb : R.testBit n = true
      · rw [if_pos hb] at h
        exact ⟨n, by omega, hb, by omega⟩
      · rw [if_neg hb] at h; omega
theorem bit_lt {x n i : Nat} (h : x < 2 ^ n) (hb : x.testBit i = true) : i < n := by
  refine Nat.lt_of_not_le fun hh => ?_
  rw [Nat.testBit_lt_two_pow (Nat.lt_of_lt_of_le h (Nat.pow_le_pow_right (by omega) hh))] at hb
  cases hb
theorem low_uniq {u a b : Nat} (h : Low u a) (k : Low u b) : a = b := by
  rcases Nat.lt_trichotomy a b with h1 | h1 | h1
  · have := k.2 a h1; rw [h.1] at this; cases this
  · exact h1
  · have := h.2 b h1; rw [k.1] at this; cases this
theorem conn_dep {R n u : Nat} {E : List (Nat × Nat)} (hE : ∀ e ∈ E, e.1 < e.2) (hu : u < 2 ^ pop n R) : Conn (adjOf (indE R E)) u ↔ Conn (adjOf E) (dep n R u) := by
  have hd := dep_lt n R u
  constructor
  · rintro ⟨k, hk, hc⟩
    obtain ⟨k', h1, h2⟩ := dep_low hu hk
    have hkn := bit_lt hd h1.1
    have h3 : (dep n R (2 ^ k)).testBit k' = true := by rw [h2, bit_two_pow, decide_eq_true rfl]
    rw [dep_bit hkn, Bool.and_eq_true, bit_two_pow, decide_eq_true_eq] at h3
    refine ⟨k', h1, fun T hT hcl j hj => ?_⟩
    have hs : Sub u (pex n R T) := by
      refine hc _ (by rw [h3.2, pex_bit hkn h3.1]; exact hT) fun q1 q2 hq1 hadj hq2 => ?_
      have ha := hadj
      unfold adjOf at ha
      rw [adj_bit _ _ _ _ (ind_lt hE)] at ha
      simp only [Nat.zero_testBit, Bool.false_eq_true, false_or] at ha
      obtain ⟨v2, a1, a2, rfl⟩ := ind_node (bit_lt hu hq2)
      obtain ⟨v1, b1, b2, rfl⟩ : ∃ v, v < n ∧ R.testBit v = true ∧ pop v R = q1 := by
        by_cases hlt : q1 < pop n R
        · exact ind_node hlt
        · exfalso
          have hp : ∀ {n R T : Nat}, pex n R T < 2 ^ pop n R := by
            intro n
            induction n with
            | zero => intro R T; simp [pex, pop]
            | succ n ih =>
              intro R T
              by_cases hR : R % 2 = 1
              · rw [pex, if_pos hR, pop_odd hR, Nat.pow_succ]; have := ih (R := R / 2) (T := T / 2); omega
              · rw [pex, if_neg hR, pop_even hR]; exact ih
          exact hlt (bit_lt hp hq1)
      rw [pex_bit b1 b2] at hq1
      rw [pex_bit a1 a2]
      exact hcl v1 v2 hq1 ((ind_adj hE b2 a2).1 hadj) (by rw [dep_bit a1, a2, hq2]; rfl)
    have hjn := bit_lt hd hj
    rw [dep_bit hjn, Bool.and_eq_true] at hj
    have := hs _ hj.2
    rwa [pex_bit hjn hj.1] at this
  · rintro ⟨k', h1, hc⟩
    have hu0 : u ≠ 0 := by
      intro h; rw [h, dep_zero] at h1; have := h1.1; simp at this
    obtain ⟨k, hk⟩ := low_exists (u := u) (by omega)
    obtain ⟨k2, h4, h2⟩ := dep_low hu hk
    obtain rfl := low_uniq h1 h4
    have hkn := bit_lt hd h1.1
    have h3 : (dep n R (2 ^ k)).testBit k' = true := by rw [h2, bit_two_pow, decide_eq_true rfl]
    rw [dep_bit hkn, Bool.and_eq_true, bit_two_pow, decide_eq_true_eq] at h3
    refine ⟨k, hk, fun T hT hcl q hq => ?_⟩
    have hs : Sub (dep n R u) (dep n R T) := by
      refine hc _ (by rw [dep_bit hkn, h3.1, ← h3.2, hT]; rfl) fun i j hi hadj hj => ?_
      have hin := bit_lt (dep_lt n R T) hi
      have hjn := bit_lt hd hj
      rw [dep_bit hin, Bool.and_eq_true] at hi
      rw [dep_bit hjn, Bool.and_eq_true] at hj
      rw [dep_bit hjn, hj.1, hcl _ _ hi.2 ((ind_adj hE hi.1 hj.1).2 hadj) hj.2]; rfl
    obtain ⟨v, a1, a2, rfl⟩ := ind_node (bit_lt hu hq)
    have := hs v (by rw [dep_bit a1, a2, hq]; rfl)
    rw [dep_bit a1, Bool.and_eq_true] at this
    exact this.2
theorem fits_dep {R n u : Nat} {E : List (Nat × Nat)} {ws : List Int} (lo hi : Int) (hw : ws.length = n) (hE : ∀ e ∈ E, e.1 < e.2) (hu : u < 2 ^ pop n R) : fitsB (indE R E) (wsR ws R n) lo hi u = fitsB E ws lo hi (dep n R u) := by
  unfold fitsB
  rw [wsR_len, weight_dep ws n (Nat.le_refl _), hw]
  apply decide_eq_decide.2
  rw [conn_dep hE hu]
  have h0 : 0 < u ↔ 0 < dep n R u := by
    constructor
    · intro h; have := dep_pos hu (by omega); omega
    · intro h; rcases Nat.eq_zero_or_pos u with h1 | h1
      · rw [h1, dep_zero] at h; omega
      · exact h1
  rw [h0]
theorem dep_all : ∀ {n R : Nat}, R < 2 ^ n → dep n R (2 ^ pop n R - 1) = R
  | 0, R, h => by simp at h; subst h; rfl
  | n + 1, R, h => by
    rw [Nat.pow_succ] at h
    have ih := dep_all (n := n) (R := R / 2) (by omega)
    have hpos : 0 < 2 ^ pop n (R / 2) := Nat.pow_pos (by omega)
    by_cases hR : R % 2 = 1
    · rw [dep_odd hR, pop_odd hR, Nat.pow_succ, show (2 ^ pop n (R / 2) * 2 - 1) / 2 = 2 ^ pop n (R / 2) - 1 by omega, ih]; omega
    · rw [dep_even hR, pop_even hR, ih]; omega
/-- The number of plans of the induced graph. -/
theorem total_dep {R n k : Nat} {E : List (Nat × Nat)} {ws : List Int} (lo hi : Int) (hn : n ≤ 64) (hw : ws.length = n) (hE : ∀ e ∈ E, e.1 < e.2) (hR : R < 2 ^ n) :
    totalP (pop n R) (indE R E) (wsR ws R n) lo hi k = ways (fitsB E ws lo hi) k R := by
  have hpos : 0 < 2 ^ pop n R := Nat.pow_pos (by omega)
  rw [totalP, after_nil, ways_congr (n := pop n R) (fun s hs => fits_dep lo hi hw hE hs) k _ (by omega), ← ways_dep (fitsB E ws lo hi) hn k _ (by omega), dep_all hR]
end Go.Id

/-! The induced graph is a graph. -/
namespace Go.Id
open Go

def lexE (a b : Int × Int) : Prop := a.1 < b.1 ∨ (a.1 = b.1 ∧ a.2 < b.2)
theorem lexE_trans {a b c : Int × Int} (h : lexE a b) (k : lexE b c) : lexE a c := by unfold lexE at *; omega
theorem cmpL_two (a b c d : Int) : cmpL [a, b] [c, d] < 0 ↔ lexE (a, b) (c, d) := by
  unfold lexE
  simp only [cmpL]
  by_cases h1 : a < c
  · simp [h1]
  · by_cases h2 : c < a
    · simp [h1, h2]; omega
    · have h3 : a = c := by omega
      subst h3
      by_cases h4 : b < d
      · simp [h4]
      · by_cases h5 : d < b <;> simp [h4, h5]
theorem edges_pw {n : Int} : ∀ {E : List (Int × Int)} {p : Int × Int}, edgesB n p E = true ↔ (∀ e ∈ E, 0 ≤ e.1 ∧ e.1 < e.2 ∧ e.2 < n) ∧ List.Pairwise lexE (p :: E)
  | [], p => by simp [edgesB]
  | x :: E, p => by
    rw [edgesB]
    simp only [Bool.and_eq_true, decide_eq_true_eq]
    rw [cmpL_two, edges_pw (E := E) (p := x)]
    constructor
    · rintro ⟨⟨⟨⟨h1, h2⟩, h3⟩, h4⟩, h5, h6⟩
      refine ⟨fun e he => ?_, List.Pairwise.cons (fun e he => ?_) h6⟩
      · rcases List.mem_cons.1 he with rfl | he
        · exact ⟨h1, h2, h3⟩
        · exact h5 e he
      · rcases List.mem_cons.1 he with rfl | he
        · exact h4
        · exact lexE_trans h4 ((List.pairwise_cons.1 h6).1 e he)
    · rintro ⟨h1, h2⟩
      have h3 := h1 x (List.mem_cons_self ..)
      obtain ⟨h4, h5⟩ := List.pairwise_cons.1 h2
      exact ⟨⟨⟨⟨h3.1, h3.2.1⟩, h3.2.2⟩, h4 x (List.mem_cons_self ..)⟩, fun e he => h1 e (List.mem_cons_of_mem _ he), h5⟩
theorem pop_mono {R : Nat} : ∀ {w v : Nat}, v ≤ w → pop v R ≤ pop w R
  | 0, v, h => by
    obtain rfl : v = 0 := by omega
    exact Nat.le_refl _
  | w + 1, v, h => by
    by_cases hv : v = w + 1
    · rw [hv]; exact Nat.le_refl _
    · have := pop_mono (R := R) (w := w) (v := v) (by omega)
      rw [pop_top]; omega
theorem ind_graph {R n : Nat} {E : List (Nat × Nat)} (h : graphErr n (castE E) = 0) (hR : R ≠ 0) (hlt : R < 2 ^ n) : graphErr (pop n R) (castE (indE R E)) = 0 := by
  unfold graphErr at h
  split at h
  · rename_i hg
    obtain ⟨h1, h2, h3, h4⟩ := hg
    obtain ⟨h5, h6⟩ := edges_pw.1 h4
    obtain ⟨h7, h8⟩ := List.pairwise_cons.1 h6
    have hp := pop_pos hlt hR
    have hq := pop_le n R
    have hl : (castE (indE R E)).length ≤ 200 := by
      have := List.length_filter_le (fun e : Nat × Nat => R.testBit e.1 && R.testBit e.2) E
      simp only [castE, indE, List.length_map] at h3 ⊢
      omega
    refine if_pos ⟨by omega, by omega, hl, edges_pw.2 ⟨fun e he => ?_, List.Pairwise.cons (fun e he => ?_) ?_⟩⟩
    · obtain ⟨x, hx, rfl⟩ := List.mem_map.1 he
      obtain ⟨y, hy, rfl⟩ := List.mem_map.1 hx
      obtain ⟨hy1, hy2⟩ := List.mem_filter.1 hy
      rw [Bool.and_eq_true] at hy2
      have := h5 _ (List.mem_map.2 ⟨y, hy1, rfl⟩)
      have a1 := pop_lt_of (show y.1 < y.2 by omega) hy2.1
      have a2 := pop_lt_of (show y.2 < n by omega) hy2.2
      exact ⟨by omega, by simpa using a1, by simpa using a2⟩
    · obtain ⟨x, hx, rfl⟩ := List.mem_map.1 he
      exact .inl (by omega)
    · unfold castE indE
      rw [List.map_map, List.pairwise_map]
      unfold castE at h8
      rw [List.pairwise_map] at h8
      refine List.Pairwise.imp_of_mem ?_ (h8.filter _)
      intro a b ha hb hab
      obtain ⟨_, ha2⟩ := List.mem_filter.1 ha
      obtain ⟨_, hb2⟩ := List.mem_filter.1 hb
      rw [Bool.and_eq_true] at ha2 hb2
      rcases hab with hab | ⟨hab, hab2⟩
      · left
        have := pop_lt_of (show a.1 < b.1 by simpa using hab) ha2.1
        simpa using this
      · right
        have e1 : a.1 = b.1 := Int.ofNat.inj hab
        have := pop_lt_of (show a.2 < b.2 by simpa using hab2) ha2.2
        exact ⟨by simp [e1], by simpa using this⟩
  · omega
theorem ind_en {R n j : Nat} {E : List (Nat × Nat)} {ws : List Int} {lo hi d : Int} (h : enErr n (castE E) ws lo hi d = 0) (hR : R ≠ 0) (hlt : R < 2 ^ n) (hj : 1 ≤ j ∧ j ≤ 8) : enErr (pop n R) (castE (indE R E)) (wsR ws R n) lo hi j = 0 := by
  obtain ⟨hG, hn0, hn12, hV, hlen, hwl, hws, hd1, hd2, hlo, hlohi⟩ := enErr_ok h
  have hq := pop_le n R
  have hall : ∀ w ∈ wsR ws R n, 0 ≤ w ∧ w ≤ 1000000000 := by
    intro w hw
    obtain ⟨v, _, rfl⟩ := List.mem_map.1 hw
    show 0 ≤ ws.getD v 0 ∧ ws.getD v 0 ≤ 1000000000
    rw [List.getD]
    cases hg : ws[v]? with
    | none => exact ⟨Int.le_refl _, by decide⟩
    | some x => exact hws x (List.mem_of_getElem? hg)
  rw [enErr, if_pos (ind_graph hG hR hlt), if_pos (by omega), if_pos ⟨by rw [wsR_len], hall, by omega, by omega, hlo, hlohi⟩]
/-- What the law adds for a district, or passes over. -/
theorem part_term (F : Nat → Bool) (j r : Nat) : (if (r = 0) ↔ (j = 0) then (if r = 0 then 1 else ways F j r) else 0) = ways F j r := by
  by_cases hr : r = 0
  · by_cases hj : j = 0
    · subst hj; subst hr; rw [if_pos (by simp), if_pos rfl]; rfl
    · rw [if_neg (by simp [hr, hj])]
      obtain ⟨i, rfl⟩ : ∃ i, j = i + 1 := ⟨j - 1, by omega⟩
      rw [ways, if_pos hr]
  · by_cases hj : j = 0
    · rw [if_neg (by simp [hr, hj])]
      subst hj
      rw [ways, if_neg hr]
    · rw [if_pos (by simp [hr, hj]), if_neg hr]
end Go.Id

/-! The places of a part's nodes, as a map. -/
namespace Go.Id
open Go

/-- The places of R's nodes below m. -/
def plL (R m : Nat) : MapL := (ndl R m).map fun v => (KN v, KN (pop v R))
theorem plL_key {R m : Nat} {e : Value × Value} (h : e ∈ plL R m) : ∃ v, v < m ∧ R.testBit v = true ∧ e = (KN v, KN (pop v R)) := by
  obtain ⟨v, hv, rfl⟩ := List.mem_map.1 h
  obtain ⟨h1, h2⟩ := List.mem_filter.1 hv
  exact ⟨v, List.mem_range.1 h1, h2, rfl⟩
theorem plL_succ {R m : Nat} (hb : R.testBit m = true) : plL R (m + 1) = plL R m ++ [(KN m, KN (pop m R))] := by
  unfold plL
  rw [ndl_succ, if_pos hb, List.map_append]; rfl
theorem plL_skip {R m : Nat} (hb : ¬ R.testBit m = true) : plL R (m + 1) = plL R m := by
  unfold plL
  rw [ndl_succ, if_neg hb, List.append_nil]
theorem asc_none_of {k : Value} : ∀ {l : MapL}, (∀ e ∈ l, e.1 ≠ k) → asc l k = none
  | [], _ => rfl
  | e :: l, h => by
    unfold asc
    rw [if_neg (h e (List.mem_cons_self ..))]
    exact asc_none_of fun x hx => h x (List.mem_cons_of_mem _ hx)
theorem place_none_of {k : Value} : ∀ {l : MapL}, (∀ e ∈ l, e.1 ≠ k) → place l k = none
  | [], _ => rfl
  | e :: l, h => by
    unfold place
    rw [if_neg (h e (List.mem_cons_self ..)), place_none_of fun x hx => h x (List.mem_cons_of_mem _ hx)]; rfl
theorem kn_inj {a b : Nat} (h : KN a = KN b) : a = b := by
  have : (a : Int) = (b : Int) := by injection h
  omega
theorem plL_new {R m : Nat} : ∀ e ∈ plL R m, e.1 ≠ KN m := by
  intro e he hh
  obtain ⟨v, hv, _, rfl⟩ := plL_key he
  have := kn_inj hh
  omega
theorem plL_upd {R m : Nat} (hb : R.testBit m = true) : upd (plL R m) (KN m) (KN (pop m R)) = plL R (m + 1) := by
  rw [upd, place_none_of plL_new, plL_succ hb]
theorem plL_asc {R : Nat} : ∀ {m v : Nat}, v < m → R.testBit v = true → asc (plL R m) (KN v) = some (KN (pop v R))
  | 0, _, h, _ => by omega
  | m + 1, v, h, hb => by
    by_cases hv : v = m
    · subst hv
      rw [plL_succ hb, asc_append, asc_none_of plL_new]
      simp [asc]
    · have ih := plL_asc (m := m) (show v < m by omega) hb
      by_cases hm : R.testBit m = true
      · rw [plL_succ hm, asc_append, ih]
      · rw [plL_skip hm, ih]
/-- A store into a block that is no slice's leaves a growing list as it is. -/
theorem Acc.putAny {h : IH} {n0 sz : Nat} {v : Value} {n : Nat} {cs : List Value} (a : Acc h n0 sz v n cs) {k : Nat} (hk : ∀ c e f, e ≠ 0 → h.ext.get k ≠ some (.cells c e f)) (o : IObj) : Acc (h.put k o) n0 sz v n cs := by
  obtain ⟨hz, hl, a | ⟨j, fam, rfl, hn, h1, h2, h3, h4⟩⟩ := a
  · exact ⟨hz, hl, .inl a⟩
  · refine ⟨hz, hl, .inr ⟨j, fam, rfl, hn, h1, h2, ?_, ?_⟩⟩
    · rw [get_put, if_neg]
      · exact h3
      · rintro rfl; exact absurd h3 (hk _ _ _ (by omega))
    · cases fam with
      | none => trivial
      | some f => exact h4
end Go.Id

/-! Contract: graph.Induced. -/
namespace Go.Id
open Go

theorem ndl_gap {R m : Nat} : ∀ {k : Nat}, m ≤ k → (∀ j, m ≤ j → j < k → R.testBit j = false) → ndl R k = ndl R m
  | 0, h, _ => by obtain rfl : m = 0 := by omega
                  rfl
  | k + 1, h, g => by
    by_cases hk : m = k + 1
    · rw [hk]
    · rw [ndl_succ, g k (by omega) (by omega), if_neg (by simp), List.append_nil, ndl_gap (by omega) fun j h1 h2 => g j h1 (by omega)]
/-- Between two nodes. -/
structure IndJ (h h5 : IH) (r : ILoop) (R n : Nat) (v : Value) (s : Nat) (hh : IH) (mm : Nat) (x : Value) : Prop where
  mn : mm ≤ n
  bits : ∀ j, s.testBit j = true ↔ R.testBit j = true ∧ mm ≤ j
  e : Ext h hh
  b : BaseT hh
  n5 : h5.n + 4 ≤ hh.n
  gm : hh.ext.get h5.n = some (.map (plL R mm))
  gv : hh.ext.get (h5.n + 1) = some (.cells [.map (some (2 * h5.n))] 0 none)
  g0 : hh.ext.get h.n = some (.cells [KI n, v] 0 none)
  g1 : hh.ext.get (h.n + 1) = some (.cells [.int .i64 0, .slice none 0 0] 0 none)
  g2 : hh.ext.get (h.n + 1 + 1) = some (.cells [x] 0 none)
  acc : Acc hh h5.n 1 x (ndl R mm).length ((ndl R mm).map KN)
  gs : hh.ext.get (h5.n + 1 + 1) = some (.cells [K64 s] 0 none)
  gl : hh.ext.get (h5.n + 3) = some (.loop r)
theorem mapT121 : MapT Proofs.Tryd.prog 121 3 (KI 0) := ⟨3, u121, by kernel_rfl, rfl⟩
theorem ghas_ok (s : Nat) (i : Nat) (h : IH) (hs : s < 18446744073709551616) (hi : i < 9223372036854775808) :
    WV Proofs.Tryd.prog (.func (.func 69) #[] #[]) [K64 s, KI i] h fun v h' => v = .bool (s.testBit i) ∧ h' = h := by
  refine enter (nt := 10) (rs := [.tmp 4]) Proofs.Tryd.func69 rfl rfl rfl (by simp) ?_
  have := nshr_le s i
  simp -dsimp (maxSteps := 1000000) (disch := first | omega | (simp only [new_n, put_n]; omega) | decide +kernel | (repeat first | rw [new_n] | rw [put_n])) only [wpS, wpT, Nat.reduceEqDiff, reduceIte, Nat.reduceLT, Nat.reduceLeDiff, Nat.reduceAdd, Nat.reduceMul, Nat.reduceBEq, Int.reduceToNat, bit_eq_one]
/-- Among the edges. -/
structure EdJ (h h5 : IH) (R n : Nat) (E : List (Nat × Nat)) (v x : Value) (i : Nat) (hh : IH) (out : Value) : Prop where
  e : Ext h hh
  lt : h5.n + 4 ≤ hh.n
  gm : hh.ext.get h5.n = some (.map (plL R n))
  gv : hh.ext.get (h5.n + 1) = some (.cells [.map (some (2 * h5.n))] 0 none)
  g1 : hh.ext.get (h.n + 1) = some (.cells [KI ((pop n R : Nat) : Int), out] 0 none)
  g2 : hh.ext.get (h.n + 1 + 1) = some (.cells [x] 0 none)
  sx : SlOf hh 1 x (ndl R n).length ((ndl R n).map KN)
  acc : Acc hh (h5.n + 4) 2 out (indE R (E.take i)).length (eCells (castE (indE R (E.take i))))
theorem indE_take {R : Nat} {E : List (Nat × Nat)} {i : Nat} {e : Nat × Nat} (h : E[i]? = some e) : indE R (E.take (i + 1)) = indE R (E.take i) ++ (if R.testBit e.1 && R.testBit e.2 then [(pop e.1 R, pop e.2 R)] else []) := by
  unfold indE
  rw [List.take_add_one, h, List.filter_append, List.map_append]
  congr 1
  simp only [Option.toList, List.filter_cons, List.filter_nil]
  split <;> rfl
theorem indE_len (R : Nat) (E : List (Nat × Nat)) : (indE R E).length ≤ E.length := by
  unfold indE
  rw [List.length_map]
  exact List.length_filter_le _ _
set_option maxHeartbeats 8000000 in
theorem induced_ok {h : IH} (hB : BaseT h) {n : Nat} {E : List (Nat × Nat)} {v : Value} (hE : SlOf h 2 v E.length (eCells (castE E))) (hG : graphErr n (castE E) = 0) (hn : n ≤ 64) {R : Nat} (h0 : R ≠ 0) (hR : R < 2 ^ n) :
    WV Proofs.Tryd.prog (.func (.func 35) #[] #[]) [.agg #[KI n, v], K64 R] h fun r h' => Ext h h' ∧ ∃ w x, r = .tuple #[.agg #[KI ((pop n R : Nat) : Int), w], x, KI 0] ∧ SlOf h' 2 w (indE R E).length (eCells (castE (indE R E))) ∧ SlOf h' 1 x (ndl R n).length ((ndl R n).map KN) := by
  obtain ⟨m, hm, h1, h2, h3, h4⟩ := graph_ok hG
  obtain rfl : n = m := by omega
  have hp64 : 2 ^ n ≤ 2 ^ 64 := Nat.pow_le_pow_right (by omega) hn
  refine enter (nt := 71) (rs := [.cell 4 32, .cell 5 33, .tmp 6]) Proofs.Tryd.func35 rfl rfl rfl (by simp) ?_
  simp -dsimp (maxSteps := 1000000) (disch := first | omega | (simp only [new_n, put_n]; omega) | decide +kernel | (repeat first | rw [new_n] | rw [put_n])) only [wpS, wpT, Nat.reduceEqDiff, reduceIte, Nat.reduceLT, Nat.reduceLeDiff, Nat.reduceAdd, Nat.reduceMul, Nat.reduceBEq, Int.reduceToNat, zc32, zc33, ld32, bv32, st32, st33, zc121, st121, ld121, ld33, u121, zc3, bs33, fa32_0, st3, fa32_1, ld30, es30, ld52, zc52, st52, ar52, ld3, bv52, pl52_0, pl52_1, bs30, st30, ln33, ba33_33, ln30, ba30_30]
  have e0 : ∀ o1 o2 o3, Ext h (((h.new o1).new o2).new o3) := fun o1 o2 o3 => (((Ext.refl h).new _).new _).new _
  have hI := cast_in h2 h3
  have hl : (castE E).length = E.length := by simp [castE]
  refine call (check_ok (n := (n : Int)) (E := castE E) (v := v) ⟨by omega, by omega⟩ (by rw [hl]; exact hE.ext (e0 _ _ _)) (by omega) hI R (by omega)) ?_
  rintro _ h5 ⟨e5, rfl⟩
  rw [setErr, if_pos hG, if_pos (by simpa using hR)]
  have g0 : h5.ext.get h.n = some (.cells [KI n, v] 0 none) := by rw [e5.get _ (by simp only [new_n]; omega)]; simp (disch := first | omega | (simp only [new_n, put_n]; omega) | (repeat first | rw [new_n] | rw [put_n])) only [get_new_same, get_new_old, get_put_same, get_put_old]
  have g1 : h5.ext.get (h.n + 1) = some (.cells [.int .i64 0, .slice none 0 0] 0 none) := by rw [e5.get _ (by simp only [new_n]; omega)]; simp (disch := first | omega | (simp only [new_n, put_n]; omega) | (repeat first | rw [new_n] | rw [put_n])) only [get_new_same, get_new_old, get_put_same, get_put_old]
  have g2 : h5.ext.get (h.n + 1 + 1) = some (.cells [.slice none 0 0] 0 none) := by rw [e5.get _ (by simp only [new_n]; omega)]; simp (disch := first | omega | (simp only [new_n, put_n]; omega) | (repeat first | rw [new_n] | rw [put_n])) only [get_new_same, get_new_old, get_put_same, get_put_old]
  have n5 : h.n + 3 ≤ h5.n := e5.n
  have x5 := (e0 _ _ _).trans e5
  clear e0
  have hR0 : ((R : Int) == 0) = false := by simpa using h0
  simp -dsimp (maxSteps := 1000000) (disch := first | omega | (simp only [new_n, put_n]; omega) | decide +kernel | (repeat first | rw [new_n] | rw [put_n])) only [wpS, wpT, Nat.reduceEqDiff, reduceIte, Nat.reduceLT, Nat.reduceLeDiff, Nat.reduceAdd, Nat.reduceMul, Nat.reduceBEq, Int.reduceToNat, zc32, zc33, ld32, bv32, st32, st33, zc121, st121, ld121, ld33, u121, zc3, bs33, fa32_0, st3, fa32_1, ld30, es30, ld52, zc52, st52, ar52, ld3, bv52, pl52_0, pl52_1, bs30, st30, ln33, ba33_33, ln30, ba30_30]
  refine call (nodes_ok R) ?_
  rintro _ _ ⟨rfl, rfl⟩
  simp -dsimp (maxSteps := 1000000) (disch := first | omega | (simp only [new_n, put_n]; omega) | decide +kernel | (repeat first | rw [new_n] | rw [put_n])) only [wpS, wpT, Nat.reduceEqDiff, reduceIte, Nat.reduceLT, Nat.reduceLeDiff, Nat.reduceAdd, Nat.reduceMul, Nat.reduceBEq, Int.reduceToNat, zc32, zc33, ld32, bv32, st32, st33, zc121, st121, ld121, ld33, u121, zc3, bs33, fa32_0, st3, fa32_1, ld30, es30, ld52, zc52, st52, ar52, ld3, bv52, pl52_0, pl52_1, bs30, st30, ln33, ba33_33, ln30, ba30_30]
  obtain ⟨hT, eT⟩ : ∃ hT, hT = (((h5.new (.map [])).new (.cells [.map none] 0 none)).put (h5.n + 1) (.cells [.map (some (2 * h5.n))] 0 none)).new (.cells [K64 R] 0 none) := ⟨_, rfl⟩
  have t0 : hT.n = h5.n + 3 := by rw [eT]; rfl
  have tE : Ext h5 hT := by rw [eT]; exact ((((Ext.refl h5).new _).new _).put (by omega) _).new _
  have tm : hT.ext.get h5.n = some (.map []) := by rw [eT]; simp (disch := first | omega | (simp only [new_n, put_n]; omega) | (repeat first | rw [new_n] | rw [put_n])) only [get_new_same, get_new_old, get_put_same, get_put_old]
  have tv : hT.ext.get (h5.n + 1) = some (.cells [.map (some (2 * h5.n))] 0 none) := by rw [eT]; simp (disch := first | omega | (simp only [new_n, put_n]; omega) | (repeat first | rw [new_n] | rw [put_n])) only [get_new_same, get_new_old, get_put_same, get_put_old]
  have tn : hT.ext.get (h5.n + 2) = some (.cells [K64 R] 0 none) := by rw [eT]; simp (disch := first | omega | (simp only [new_n, put_n]; omega) | (repeat first | rw [new_n] | rw [put_n])) only [get_new_same, get_new_old, get_put_same, get_put_old]
  rw [← eT]
  have q0 : hT.ext.get h.n = some (.cells [KI n, v] 0 none) := by rw [tE.get _ (by omega)]; exact g0
  have q1 : hT.ext.get (h.n + 1) = some (.cells [.int .i64 0, .slice none 0 0] 0 none) := by rw [tE.get _ (by omega)]; exact g1
  have q2 : hT.ext.get (h.n + 1 + 1) = some (.cells [.slice none 0 0] 0 none) := by rw [tE.get _ (by omega)]; exact g2
  clear eT
  refine range1 rfl rfl ?_ ?_ ?_
  · decide
  · decide
  intro r y hy
  rw [t0] at hy ⊢
  have sR : R < 18446744073709551616 := by omega
  refine WV.mono (nodes1_ok (h5.n + 1 + 1) (fun s hh => s < 18446744073709551616 ∧ ∃ mm x, IndJ h h5 r R n v s hh mm x) (fun hh => ∃ x, IndJ h h5 r R n v 0 hh n x) ?_ ?_ R ?_ ?_) ?_
  · rintro s hh ⟨j1, mm, x, j⟩
    exact ⟨j1, j.b, j.gs⟩
  · rintro hh ⟨_, mm, x, j⟩
    have hg : ndl R n = ndl R mm := ndl_gap j.mn fun i h1 h2 => by
      have := (j.bits i)
      simp only [Nat.zero_testBit, Bool.false_eq_true, false_iff, not_and] at this
      cases hb : R.testBit i with
      | false => rfl
      | true => exact absurd h1 (this hb)
    refine ⟨x, { j with mn := Nat.le_refl _, bits := fun i => ?_, gm := ?_, acc := ?_ }⟩
    · simp only [Nat.zero_testBit, Bool.false_eq_true, false_iff, not_and]
      intro hb hi
      have := bit_lt hR hb
      omega
    · rw [plL, hg]; exact j.gm
    · rw [hg]; exact j.acc
  · refine ⟨sR, 0, .slice none 0 0, ⟨Nat.zero_le _, fun j => by simp, (x5.trans tE).new _, ((hB.ext x5).ext tE).ext ((Ext.refl _).new _), by simp only [new_n]; omega, ?_, ?_, ?_, ?_, ?_, Acc.nil _ _ (by decide), ?_, get_new_same _ _ t0.symm⟩⟩
    · rw [get_new_old _ _ (by omega)]; exact tm
    · rw [get_new_old _ _ (by omega)]; exact tv
    · rw [get_new_old _ _ (by omega)]; exact q0
    · rw [get_new_old _ _ (by omega)]; exact q1
    · rw [get_new_old _ _ (by omega)]; exact q2
    · rw [get_new_old _ _ (by omega)]; exact tn
  · rintro s k hh hl hk ⟨j1, mm, x, j⟩
    refine hy _ _ _ j.gl ?_
    have hkR := (j.bits k).1 hl.1
    have hkn : k < n := bit_lt hR hkR.1
    have hgap : ndl R k = ndl R mm := ndl_gap hkR.2 fun i h1 h2 => by
      have a1 := hl.2 i h2
      have a2 := j.bits i
      cases hb : R.testBit i with
      | false => rfl
      | true => rw [a2.2 ⟨hb, h1⟩] at a1; cases a1
    have jE := j.e
    have jb := j.b
    have jn := j.n5
    have jm : (hh.put (h5.n + 3) (.loop (busyL r))).ext.get h5.n = some (.map (plL R k)) := by rw [get_put_old _ _ (by omega), plL, hgap]; exact j.gm
    have jv : (hh.put (h5.n + 3) (.loop (busyL r))).ext.get (h5.n + 1) = some (.cells [.map (some (2 * h5.n))] 0 none) := by rw [get_put_old _ _ (by omega)]; exact j.gv
    have jx : (hh.put (h5.n + 3) (.loop (busyL r))).ext.get (h.n + 1 + 1) = some (.cells [x] 0 none) := by rw [get_put_old _ _ (by omega)]; exact j.g2
    have jvr : (hh.put (h5.n + 3) (.loop (busyL r))).row (2 * (h5.n + 1)) = some [.map (some (2 * h5.n))] := by rw [row_even]; simp only [IH.cells, jv]
    have jxr : (hh.put (h5.n + 3) (.loop (busyL r))).row (2 * (h.n + 1 + 1)) = some [x] := by rw [row_even]; simp only [IH.cells, jx]
    have jH : Ext h (hh.put (h5.n + 3) (.loop (busyL r))) := jE.put (by omega) _
    have jHn : h5.n + 4 ≤ (hh.put (h5.n + 3) (.loop (busyL r))).n := jn
    have jA := j.acc.putAny (k := h5.n + 3) (by rw [j.gl]; rintro c e f _ ⟨⟩) (.loop (busyL r))
    have gL : (hh.put (h5.n + 3) (.loop (busyL r))).ext.get (h5.n + 3) = some (.loop (busyL r)) := get_put_same _ _ rfl
    have gS : (hh.put (h5.n + 3) (.loop (busyL r))).ext.get (h5.n + 1 + 1) = some (.cells [K64 s] 0 none) := by rw [get_put_old _ _ (by omega)]; exact j.gs
    have g0H : (hh.put (h5.n + 3) (.loop (busyL r))).ext.get h.n = some (.cells [KI n, v] 0 none) := by rw [get_put_old _ _ (by omega)]; exact j.g0
    have g1H : (hh.put (h5.n + 3) (.loop (busyL r))).ext.get (h.n + 1) = some (.cells [.int .i64 0, .slice none 0 0] 0 none) := by rw [get_put_old _ _ (by omega)]; exact j.g1
    have bH : BaseT (hh.put (h5.n + 3) (.loop (busyL r))) := j.b
    generalize hh.put (h5.n + 3) (.loop (busyL r)) = H at *
    have jacc : Acc H h5.n 1 x (pop k R) ((ndl R k).map KN) := by
      have := jA
      rw [← hgap, ndl_len] at this
      exact this
    have hkey : ∀ e ∈ plL R k, ∃ a, e.1 = .int .i64 a := fun e he => by obtain ⟨v, _, _, rfl⟩ := plL_key he; exact ⟨_, rfl⟩
    have hmu := mapUpdate_eq mapT121 (keyT_int u3) jm (k := KN k) ⟨_, rfl⟩ hkey (KN (pop k R))
    rw [plL_upd hkR.1] at hmu
    have hpk := pop_le k R
    obtain ⟨x', h6, hap, hA6, hG6, hE6⟩ := ((jacc.putAny (k := h5.n) (by rw [jm]; rintro c e f _ ⟨⟩) (.map (plL R (k + 1)))).app1 (x := KN k) (P := Proofs.Tryd.prog) (t := 33) ap33 rfl (by omega) (by simp only [put_n]; omega) (h0' := h) (jH.put (by omega) _) (by omega))
    have hne : ∀ {c : List Value} (c' : List Value) (e : Nat) (f : Option Nat), IObj.cells c 0 none = .cells c' e f → e = 0 := by rintro c c' e f ⟨⟩; rfl
    have hp1 : ∀ (k : Nat) o, k ≠ h5.n → k < H.n → H.ext.get k = some o → (∀ c e f, o = .cells c e f → e = 0) → h6.ext.get k = some o := fun k o h1 h2 h3 h4 => hG6.box h2 (by rw [get_put_old _ _ h1]; exact h3) h4
    have m6 : h6.ext.get h5.n = some (.map (plL R (k + 1))) := hG6.box (by simp only [put_n]; omega) (get_put_same _ _ rfl) (by rintro c e f ⟨⟩)
    have n6 : H.n ≤ h6.n := hG6.n
    have v6 := hp1 (h5.n + 1) _ (by omega) (by omega) jv hne
    have x6 := hp1 (h.n + 1 + 1) _ (by omega) (by omega) jx hne
    have a6 := hp1 h.n _ (by omega) (by omega) g0H hne
    have b6 := hp1 (h.n + 1) _ (by omega) (by omega) g1H hne
    have s6 := hp1 (h5.n + 1 + 1) _ (by omega) (by omega) gS hne
    have l6 := hp1 (h5.n + 3) _ (by omega) (by omega) gL (by rintro c e f ⟨⟩)
    have hap' : append Proofs.Tryd.prog ((H.put h5.n (.map (plL R (k + 1)))).new (.cells [KN k] 1 none)) 33 x (.slice (some ⟨2 * H.n, 0, none⟩) 1 3) = some (x', h6) := hap
    simp -dsimp (maxSteps := 1000000) (disch := first | omega | (simp only [new_n, put_n]; omega) | decide +kernel | (repeat first | rw [new_n] | rw [put_n])) only [wpS, wpT, Nat.reduceEqDiff, reduceIte, Nat.reduceLT, Nat.reduceLeDiff, Nat.reduceAdd, Nat.reduceMul, Nat.reduceBEq, Int.reduceToNat, zc32, zc33, ld32, bv32, st32, st33, zc121, st121, ld121, ld33, u121, zc3, bs33, fa32_0, st3, fa32_1, ld30, es30, ld52, zc52, st52, ar52, ld3, bv52, pl52_0, pl52_1, bs30, st30, ln33, ba33_33, ln30, ba30_30, jvr, jxr, jm, jacc.sl.len sl33, hmu, hap', x6, hA6.sl.cells, hA6.sl.cok]
    refine ⟨rfl, ?_, rfl, ?_, ?_⟩
    · rw [get_put_old _ _ (by omega)]; exact l6
    · rw [get_put_old _ _ (by omega), get_put_old _ _ (by omega)]; exact s6
    have hlow := low_clear hl
    have hsl : s &&& (s - 1) ≤ s := Nat.and_le_left
    have acc7 := (((hA6.put x6 (.cells [x'] 0 none)).putAny (k := h5.n + 3) (by rw [get_put_old _ _ (by omega), l6]; rintro c e f _ ⟨⟩) (.loop r)).put (k := h5.n + 1 + 1) (by rw [get_put_old _ _ (by omega), get_put_old _ _ (by omega)]; exact s6) (.cells [K64 (s &&& (s - 1))] 0 none))
    refine ⟨by omega, k + 1, x', ⟨by omega, fun i => ?_, ((hE6.put (by omega) _).put (by omega) _).put (by omega) _, ?_, by simp only [put_n]; omega, ?_, ?_, ?_, ?_, ?_, ?_, ?_, ?_⟩⟩
    · rw [hlow]
      simp only [Bool.and_eq_true, Bool.not_eq_true', decide_eq_false_iff_not]
      rw [j.bits]
      constructor
      · rintro ⟨⟨b1, b2⟩, b3⟩
        refine ⟨b1, ?_⟩
        by_cases hik : i < k
        · have a1 := hl.2 i hik
          rw [(j.bits i).2 ⟨b1, b2⟩] at a1; cases a1
        · omega
      · rintro ⟨b1, b2⟩
        exact ⟨⟨b1, by omega⟩, by omega⟩
    · exact hB.ext (((hE6.put (by omega) _).put (by omega) _).put (by omega) _)
    · rw [get_put_old _ _ (by omega), get_put_old _ _ (by omega), get_put_old _ _ (by omega)]; exact m6
    · rw [get_put_old _ _ (by omega), get_put_old _ _ (by omega), get_put_old _ _ (by omega)]; exact v6
    · rw [get_put_old _ _ (by omega), get_put_old _ _ (by omega), get_put_old _ _ (by omega)]; exact a6
    · rw [get_put_old _ _ (by omega), get_put_old _ _ (by omega), get_put_old _ _ (by omega)]; exact b6
    · rw [get_put_old _ _ (by omega), get_put_old _ _ (by omega)]; exact get_put_same _ _ rfl
    · have e7 : (ndl R (k + 1)).length = pop k R + 1 := by rw [ndl_succ, if_pos hkR.1, List.length_append, ndl_len]; rfl
      have e8 : (ndl R (k + 1)).map KN = (ndl R k).map KN ++ [KN k] := by rw [ndl_succ, if_pos hkR.1, List.map_append]; rfl
      rw [e7, e8]; exact acc7
    · exact get_put_same _ _ rfl
    · rw [get_put_old _ _ (by omega)]; exact get_put_same _ _ rfl
  · rintro _ h7 ⟨x, j⟩
    refine ⟨j.gl, ?_⟩
    have jn := j.n5
    have hpn := pop_le n R
    have ja := j.acc.putAny (k := h5.n + 3) (by rw [j.gl]; rintro c e f _ ⟨⟩) .dead
    rw [ndl_len] at ja
    have jE : Ext h (h7.put (h5.n + 3) .dead) := j.e.put (by omega) _
    have jm : (h7.put (h5.n + 3) .dead).ext.get h5.n = some (.map (plL R n)) := by rw [get_put_old _ _ (by omega)]; exact j.gm
    have jv : (h7.put (h5.n + 3) .dead).ext.get (h5.n + 1) = some (.cells [.map (some (2 * h5.n))] 0 none) := by rw [get_put_old _ _ (by omega)]; exact j.gv
    have j0 : (h7.put (h5.n + 3) .dead).ext.get h.n = some (.cells [KI n, v] 0 none) := by rw [get_put_old _ _ (by omega)]; exact j.g0
    have j1 : (h7.put (h5.n + 3) .dead).ext.get (h.n + 1) = some (.cells [.int .i64 0, .slice none 0 0] 0 none) := by rw [get_put_old _ _ (by omega)]; exact j.g1
    have j2 : (h7.put (h5.n + 3) .dead).ext.get (h.n + 1 + 1) = some (.cells [x] 0 none) := by rw [get_put_old _ _ (by omega)]; exact j.g2
    have jN : h5.n + 4 ≤ (h7.put (h5.n + 3) .dead).n := jn
    generalize h7.put (h5.n + 3) .dead = H at *
    have r0 : H.row (2 * h.n) = some [KI n, v] := by rw [row_even]; simp only [IH.cells, j0]
    have r2 : H.row (2 * (h.n + 1 + 1)) = some [x] := by rw [row_even]; simp only [IH.cells, j2]
    simp -dsimp (maxSteps := 1000000) (disch := first | omega | (simp only [new_n, put_n]; omega) | decide +kernel | (repeat first | rw [new_n] | rw [put_n])) only [wpS, wpT, Nat.reduceEqDiff, reduceIte, Nat.reduceLT, Nat.reduceLeDiff, Nat.reduceAdd, Nat.reduceMul, Nat.reduceBEq, Int.reduceToNat, zc32, zc33, ld32, bv32, st32, st33, zc121, st121, ld121, ld33, u121, zc3, bs33, fa32_0, st3, fa32_1, ld30, es30, ld52, zc52, st52, ar52, ld3, bv52, pl52_0, pl52_1, bs30, st30, ln33, ba33_33, ln30, ba30_30, r0, r2, j1, ja.sl.len sl33, hE.len sl30]
    have hEl : E.length ≤ 200 := h4
    have stJ : EdJ h h5 R n E v x 0 (H.put (h.n + 1) (.cells [.int .i64 ((pop n R : Nat) : Int), .slice none 0 0] 0 none)) (.slice none 0 0) := by
      refine ⟨jE.put (by omega) _, by simp only [put_n]; omega, ?_, ?_, get_put_same _ _ rfl, ?_, ?_, Acc.nil _ _ (by decide)⟩
      · rw [get_put_old _ _ (by omega)]; exact jm
      · rw [get_put_old _ _ (by omega)]; exact jv
      · rw [get_put_old _ _ (by omega)]; exact j2
      · rw [ndl_len]; exact ja.sl.keep ((Keep.refl H).put j1 _)
    refine loop (fun m fr hh => ∃ (i : Nat) (out : Value), i + m = E.length ∧ EdJ h h5 R n E v x i hh out ∧ fget fr 1 = some (K64 R) ∧ fget fr 4 = some (ptr (2 * (h.n + 1)) 0) ∧ fget fr 5 = some (ptr (2 * (h.n + 1 + 1)) 0) ∧ fget fr 8 = some (ptr (2 * (h5.n + 1)) 0) ∧ fget fr 38 = some v ∧ fget fr 39 = some (KI E.length) ∧ fget fr 40 = some (KI i)) E.length
      ⟨0, _, by omega, stJ, by simp, by simp, by simp, by simp, by simp, by simp, by simp⟩ ?_
    clear stJ ja jE jm jv j0 j1 j2 jN r0 r2 j
    rintro m fr hh ⟨i, out, him, j, f1, f4, f5, f8, f38, f39, f40⟩
    simp -dsimp (maxSteps := 1000000) (disch := first | omega | (simp only [new_n, put_n]; omega) | decide +kernel | (repeat first | rw [new_n] | rw [put_n])) only [wpS, wpT, Nat.reduceEqDiff, reduceIte, Nat.reduceLT, Nat.reduceLeDiff, Nat.reduceAdd, Nat.reduceMul, Nat.reduceBEq, Int.reduceToNat, zc32, zc33, ld32, bv32, st32, st33, zc121, st121, ld121, ld33, u121, zc3, bs33, fa32_0, st3, fa32_1, ld30, es30, ld52, zc52, st52, ar52, ld3, bv52, pl52_0, pl52_1, bs30, st30, ln33, ba33_33, ln30, ba30_30, f1, f4, f5, f8, f38, f39, f40]
    refine bq_intro ?_ ?_ <;> intro hc <;> simp only [bne_iff_ne, beq_iff_eq, decide_eq_true_eq, decide_eq_false_iff_not, bne_eq_false_iff_eq, beq_eq_false_iff_ne, ne_eq, Bool.not_eq_true', Bool.not_eq_false', Bool.not_eq_true, Bool.not_eq_false, Decidable.not_not, Bool.not_not] at hc
    · have hi : i < E.length := by omega
      obtain ⟨e, he⟩ : ∃ e, E[i]? = some e := ⟨E[i], List.getElem?_eq_getElem hi⟩
      have heV := h3 e (List.mem_of_getElem? he)
      have he2 : (castE E)[i]? = some ((e.1 : Int), (e.2 : Int)) := by simp [castE, he]
      have facts1 := hE.idx (P := Proofs.Tryd.prog) es30 (k := .i64) hi
      have facts2 := hE.ldAgg j.e.keep (P := Proofs.Tryd.prog) (t := 52) (c := i * 2) (m := 2) (by rw [eCells_len]; simp [castE]; omega) (by omega) ag52 sz52
      rw [eCells_at he2] at facts2
      have jl := j.lt
      have sEq : ((i : Int) + 1) = ((i + 1 : Nat) : Int) := by omega
      have stepN : ∀ fr' : Fr, ∀ hh' : IH, ∀ out', EdJ h h5 R n E v x (i + 1) hh' out' → fget fr' 1 = some (K64 R) → fget fr' 4 = some (ptr (2 * (h.n + 1)) 0) → fget fr' 5 = some (ptr (2 * (h.n + 1 + 1)) 0) → fget fr' 8 = some (ptr (2 * (h5.n + 1)) 0) → fget fr' 38 = some v → fget fr' 39 = some (KI E.length) → fget fr' 40 = some (KI ((i + 1 : Nat) : Int)) → ∃ m', m' < m ∧ ∃ (i : Nat) (out : Value), i + m' = E.length ∧ EdJ h h5 R n E v x i hh' out ∧ fget fr' 1 = some (K64 R) ∧ fget fr' 4 = some (ptr (2 * (h.n + 1)) 0) ∧ fget fr' 5 = some (ptr (2 * (h.n + 1 + 1)) 0) ∧ fget fr' 8 = some (ptr (2 * (h5.n + 1)) 0) ∧ fget fr' 38 = some v ∧ fget fr' 39 = some (KI E.length) ∧ fget fr' 40 = some (KI i) :=
        fun fr' hh' out' a b c d e f g h => ⟨m - 1, by omega, i + 1, out', by omega, a, b, c, d, e, f, g, h⟩
      simp -dsimp (maxSteps := 1000000) (disch := first | omega | (simp only [new_n, put_n]; omega) | decide +kernel | (repeat first | rw [new_n] | rw [put_n])) only [wpS, wpT, Nat.reduceEqDiff, reduceIte, Nat.reduceLT, Nat.reduceLeDiff, Nat.reduceAdd, Nat.reduceMul, Nat.reduceBEq, Int.reduceToNat, zc32, zc33, ld32, bv32, st32, st33, zc121, st121, ld121, ld33, u121, zc3, bs33, fa32_0, st3, fa32_1, ld30, es30, ld52, zc52, st52, ar52, ld3, bv52, pl52_0, pl52_1, bs30, st30, ln33, ba33_33, ln30, ba30_30, f1, f4, f5, f8, f38, f39, f40, facts1, facts2, idx02, idx12, List.drop_zero, take2, splice2, ok2]
      have AE : Ext hh ((hh.new (.cells [.int .i64 0, .int .i64 0] 0 none)).put hh.n (.cells [KI e.1, KI e.2] 0 none)) := ((Ext.refl hh).new _).put (Nat.le_refl _) _
      have Ar : ((hh.new (.cells [.int .i64 0, .int .i64 0] 0 none)).put hh.n (.cells [KI e.1, KI e.2] 0 none)).row (2 * hh.n) = some [KI e.1, KI e.2] := row_put_same _ _ _ _ rfl
      have An : ((hh.new (.cells [.int .i64 0, .int .i64 0] 0 none)).put hh.n (.cells [KI e.1, KI e.2] 0 none)).n = hh.n + 1 := rfl
      have Ax : SlOf ((hh.new (.cells [.int .i64 0, .int .i64 0] 0 none)).put hh.n (.cells [KI e.1, KI e.2] 0 none)) 1 x (ndl R n).length ((ndl R n).map KN) := j.sx.keep AE.keep
      generalize (hh.new (.cells [.int .i64 0, .int .i64 0] 0 none)).put hh.n (.cells [KI e.1, KI e.2] 0 none) = A at *
      have Am : A.ext.get h5.n = some (.map (plL R n)) := by rw [AE.get _ (by omega)]; exact j.gm
      have Av : A.ext.get (h5.n + 1) = some (.cells [.map (some (2 * h5.n))] 0 none) := by rw [AE.get _ (by omega)]; exact j.gv
      have Ag1 : A.ext.get (h.n + 1) = some (.cells [KI ((pop n R : Nat) : Int), out] 0 none) := by rw [AE.get _ (by omega)]; exact j.g1
      have Ag2 : A.ext.get (h.n + 1 + 1) = some (.cells [x] 0 none) := by rw [AE.get _ (by omega)]; exact j.g2
      have Aacc := j.acc.ext AE
      have AE2 := j.e.trans AE
      have tk := indE_take (R := R) he
      refine call (ghas_ok R e.1 _ sR (by omega)) ?_
      rintro _ _ ⟨rfl, hx⟩
      have hx := hx.symm
      subst hx
      have skip : (R.testBit e.1 && R.testBit e.2) = false → EdJ h h5 R n E v x (i + 1) A out := fun hf => by
        rw [hf] at tk
        simp only [Bool.false_eq_true, if_false, List.append_nil] at tk
        exact ⟨AE2, by omega, Am, Av, Ag1, Ag2, Ax, by rw [tk]; exact Aacc⟩
      cases hb1 : R.testBit e.1 with
      | false =>
        simp -dsimp (maxSteps := 1000000) (disch := first | omega | (simp only [new_n, put_n]; omega) | decide +kernel | (repeat first | rw [new_n] | rw [put_n])) only [wpS, wpT, Nat.reduceEqDiff, reduceIte, Nat.reduceLT, Nat.reduceLeDiff, Nat.reduceAdd, Nat.reduceMul, Nat.reduceBEq, Int.reduceToNat, zc32, zc33, ld32, bv32, st32, st33, zc121, st121, ld121, ld33, u121, zc3, bs33, fa32_0, st3, fa32_1, ld30, es30, ld52, zc52, st52, ar52, ld3, bv52, pl52_0, pl52_1, bs30, st30, ln33, ba33_33, ln30, ba30_30, f1, f4, f5, f8, f38, f39, f40, hb1, sEq, beq_self_eq_true]
        exact stepN _ _ _ (skip (by rw [hb1]; rfl)) (by simp [f1]) (by simp [f4]) (by simp [f5]) (by simp [f8]) (by simp [f38]) (by simp [f39]) (by simp)
      | true =>
        simp -dsimp (maxSteps := 1000000) (disch := first | omega | (simp only [new_n, put_n]; omega) | decide +kernel | (repeat first | rw [new_n] | rw [put_n])) only [wpS, wpT, Nat.reduceEqDiff, reduceIte, Nat.reduceLT, Nat.reduceLeDiff, Nat.reduceAdd, Nat.reduceMul, Nat.reduceBEq, Int.reduceToNat, zc32, zc33, ld32, bv32, st32, st33, zc121, st121, ld121, ld33, u121, zc3, bs33, fa32_0, st3, fa32_1, ld30, es30, ld52, zc52, st52, ar52, ld3, bv52, pl52_0, pl52_1, bs30, st30, ln33, ba33_33, ln30, ba30_30, f1, f4, f5, f8, f38, f39, f40, hb1, idx02, idx12, Ar, beq_self_eq_true]
        refine call (ghas_ok R e.2 _ sR (by omega)) ?_
        rintro _ _ ⟨rfl, hx⟩
        have hx := hx.symm
        subst hx
        cases hb2 : R.testBit e.2 with
        | false =>
          simp -dsimp (maxSteps := 1000000) (disch := first | omega | (simp only [new_n, put_n]; omega) | decide +kernel | (repeat first | rw [new_n] | rw [put_n])) only [wpS, wpT, Nat.reduceEqDiff, reduceIte, Nat.reduceLT, Nat.reduceLeDiff, Nat.reduceAdd, Nat.reduceMul, Nat.reduceBEq, Int.reduceToNat, zc32, zc33, ld32, bv32, st32, st33, zc121, st121, ld121, ld33, u121, zc3, bs33, fa32_0, st3, fa32_1, ld30, es30, ld52, zc52, st52, ar52, ld3, bv52, pl52_0, pl52_1, bs30, st30, ln33, ba33_33, ln30, ba30_30, f1, f4, f5, f8, f38, f39, f40, hb1, hb2, sEq, beq_self_eq_true]
          exact stepN _ _ _ (skip (by rw [hb2]; simp)) (by simp [f1]) (by simp [f4]) (by simp [f5]) (by simp [f8]) (by simp [f38]) (by simp [f39]) (by simp)
        | true =>
          have rv : A.row (2 * (h5.n + 1)) = some [.map (some (2 * h5.n))] := by rw [row_even]; simp only [IH.cells, Av]
          have rg1 : A.row (2 * (h.n + 1)) = some [KI ((pop n R : Nat) : Int), out] := by rw [row_even]; simp only [IH.cells, Ag1]
          have hkey : ∀ e ∈ plL R n, ∃ a, e.1 = .int .i64 a := fun e he => by obtain ⟨v, _, _, rfl⟩ := plL_key he; exact ⟨_, rfl⟩
          have lk1 := lookup_eq1 mapT121 (keyT_int u3) Am (k := KN e.1) ⟨_, rfl⟩ hkey
          have lk2 := lookup_eq1 mapT121 (keyT_int u3) Am (k := KN e.2) ⟨_, rfl⟩ hkey
          rw [plL_asc (by omega) hb1] at lk1
          rw [plL_asc (by omega) hb2] at lk2
          have lk1' : lookup Proofs.Tryd.prog A 121 (.map (some (2 * h5.n))) (.int .i64 (e.1 : Int)) false = some (KN (pop e.1 R)) := lk1
          have lk2' : lookup Proofs.Tryd.prog A 121 (.map (some (2 * h5.n))) (.int .i64 (e.2 : Int)) false = some (KN (pop e.2 R)) := lk2
          rw [hb1, hb2] at tk
          have hil := indE_len R (E.take i)
          have htl : (E.take i).length ≤ i := by rw [List.length_take]; omega
          obtain ⟨out', h6, hap, hA6, hG6, hE6⟩ := Aacc.appN (P := Proofs.Tryd.prog) (t := 30) ap30 (m := 1) (new := [KN (pop e.1 R), KN (pop e.2 R)]) (by omega) rfl rfl (by omega) (by omega) AE2 (by omega)
          have hap' : append Proofs.Tryd.prog (A.new (.cells [KN (pop e.1 R), KN (pop e.2 R)] 2 none)) 30 out (.slice (some ⟨2 * A.n, 0, none⟩) 1 3) = some (out', h6) := hap
          have hne : ∀ {c : List Value} (c' : List Value) (e : Nat) (f : Option Nat), IObj.cells c 0 none = .cells c' e f → e = 0 := by rintro c c' e f ⟨⟩; rfl
          have gg6 := hG6.var (by omega) Ag1
          have n6 : A.n ≤ h6.n := hG6.n
          simp -dsimp (maxSteps := 1000000) (disch := first | omega | (simp only [new_n, put_n]; omega) | decide +kernel | (repeat first | rw [new_n] | rw [put_n])) only [wpS, wpT, Nat.reduceEqDiff, reduceIte, Nat.reduceLT, Nat.reduceLeDiff, Nat.reduceAdd, Nat.reduceMul, Nat.reduceBEq, Int.reduceToNat, zc32, zc33, ld32, bv32, st32, st33, zc121, st121, ld121, ld33, u121, zc3, bs33, fa32_0, st3, fa32_1, ld30, es30, ld52, zc52, st52, ar52, ld3, bv52, pl52_0, pl52_1, bs30, st30, ln33, ba33_33, ln30, ba30_30, f1, f4, f5, f8, f38, f39, f40, hb1, hb2, sEq, idx02, idx12, Ar, rv, rg1, lk1', lk2', hap', gg6, hA6.sl.cells, hA6.sl.cok, beq_self_eq_true]
          refine stepN _ _ out' ⟨hE6.put (by omega) _, by simp only [put_n]; omega, ?_, ?_, get_put_same _ _ rfl, ?_, ?_, ?_⟩ (by simp [f1]) (by simp [f4]) (by simp [f5]) (by simp [f8]) (by simp [f38]) (by simp [f39]) (by simp)
          · rw [get_put_old _ _ (by omega)]; exact hG6.box (by omega) Am (by rintro c e f ⟨⟩)
          · rw [get_put_old _ _ (by omega)]; exact hG6.var (by omega) Av
          · rw [get_put_old _ _ (by omega)]; exact hG6.var (by omega) Ag2
          · exact Ax.keep (hG6.keep.put gg6 _)
          · rw [tk]
            have := hA6.put gg6 (.cells [KI ((pop n R : Nat) : Int), out'] 0 none)
            rw [show (if (true && true) = true then [(pop e.1 R, pop e.2 R)] else []) = [(pop e.1 R, pop e.2 R)] from rfl, castE_app, eCells_app, List.length_append]
            exact this
    · obtain rfl : i = E.length := by omega
      have jacc := j.acc
      rw [List.take_length] at jacc
      have jl := j.lt
      have rg1 : hh.row (2 * (h.n + 1)) = some [KI ((pop n R : Nat) : Int), out] := by rw [row_even]; simp only [IH.cells, j.g1]
      have rg2 : hh.row (2 * (h.n + 1 + 1)) = some [x] := by rw [row_even]; simp only [IH.cells, j.g2]
      simp -dsimp (maxSteps := 1000000) (disch := first | omega | (simp only [new_n, put_n]; omega) | decide +kernel | (repeat first | rw [new_n] | rw [put_n])) only [wpS, wpT, Nat.reduceEqDiff, reduceIte, Nat.reduceLT, Nat.reduceLeDiff, Nat.reduceAdd, Nat.reduceMul, Nat.reduceBEq, Int.reduceToNat, zc32, zc33, ld32, bv32, st32, st33, zc121, st121, ld121, ld33, u121, zc3, bs33, fa32_0, st3, fa32_1, ld30, es30, ld52, zc52, st52, ar52, ld3, bv52, pl52_0, pl52_1, bs30, st30, ln33, ba33_33, ln30, ba30_30, f4, f5, rg1, rg2]
      refine drawn [(1, [3])] (by kernel_rfl) (by kernel_rfl) rfl ?_
      simp -dsimp (maxSteps := 1000000) (disch := first | omega | (simp only [new_n, put_n]; omega) | decide +kernel | (repeat first | rw [new_n] | rw [put_n])) only [wpS, wpT, Nat.reduceEqDiff, reduceIte, Nat.reduceLT, Nat.reduceLeDiff, Nat.reduceAdd, Nat.reduceMul, Nat.reduceBEq, Int.reduceToNat, zc32, zc33, ld32, bv32, st32, st33, zc121, st121, ld121, ld33, u121, zc3, bs33, fa32_0, st3, fa32_1, ld30, es30, ld52, zc52, st52, ar52, ld3, bv52, pl52_0, pl52_1, bs30, st30, ln33, ba33_33, ln30, ba30_30, f4, f5, rg1, rg2, j.g1, j.g2, jacc.sl.cells, jacc.sl.cok, j.sx.cells, j.sx.cok, List.drop_zero, take2, splice2]
      have k1 := (Keep.refl hh).put j.g1 (.cells [KI ((pop n R : Nat) : Int), out] 0 none)
      have g2' : (hh.put (h.n + 1) (.cells [KI ((pop n R : Nat) : Int), out] 0 none)).ext.get (h.n + 1 + 1) = some (.cells [x] 0 none) := by rw [get_put_old _ _ (by omega)]; exact j.g2
      have k2 := k1.put g2' (.cells [x] 0 none)
      refine ⟨wpSteady_one rfl rfl rfl rfl (steady_load (av := ptr (2 * (h.n + 1 + 1)) 0) (v := x) ?_ ?_ ?_), ?_⟩
      · simp -dsimp (maxSteps := 1000000) (disch := first | omega | (simp only [new_n, put_n]; omega) | decide +kernel | (repeat first | rw [new_n] | rw [put_n])) only [wpS, wpT, Nat.reduceEqDiff, reduceIte, Nat.reduceLT, Nat.reduceLeDiff, Nat.reduceAdd, Nat.reduceMul, Nat.reduceBEq, Int.reduceToNat, zc32, zc33, ld32, bv32, st32, st33, zc121, st121, ld121, ld33, u121, zc3, bs33, fa32_0, st3, fa32_1, ld30, es30, ld52, zc52, st52, ar52, ld3, bv52, pl52_0, pl52_1, bs30, st30, ln33, ba33_33, ln30, ba30_30, f5]
      · simp -dsimp (maxSteps := 1000000) (disch := first | omega | (simp only [new_n, put_n]; omega) | decide +kernel | (repeat first | rw [new_n] | rw [put_n])) only [wpS, wpT, Nat.reduceEqDiff, reduceIte, Nat.reduceLT, Nat.reduceLeDiff, Nat.reduceAdd, Nat.reduceMul, Nat.reduceBEq, Int.reduceToNat, zc32, zc33, ld32, bv32, st32, st33, zc121, st121, ld121, ld33, u121, zc3, bs33, fa32_0, st3, fa32_1, ld30, es30, ld52, zc52, st52, ar52, ld3, bv52, pl52_0, pl52_1, bs30, st30, ln33, ba33_33, ln30, ba30_30, rg2]
      · simp -dsimp (maxSteps := 1000000) (disch := first | omega | (simp only [new_n, put_n]; omega) | decide +kernel | (repeat first | rw [new_n] | rw [put_n])) only [wpS, wpT, Nat.reduceEqDiff, reduceIte, Nat.reduceLT, Nat.reduceLeDiff, Nat.reduceAdd, Nat.reduceMul, Nat.reduceBEq, Int.reduceToNat, zc32, zc33, ld32, bv32, st32, st33, zc121, st121, ld121, ld33, u121, zc3, bs33, fa32_0, st3, fa32_1, ld30, es30, ld52, zc52, st52, ar52, ld3, bv52, pl52_0, pl52_1, bs30, st30, ln33, ba33_33, ln30, ba30_30, rg2]
      simp -dsimp (maxSteps := 1000000) (disch := first | omega | (simp only [new_n, put_n]; omega) | decide +kernel | (repeat first | rw [new_n] | rw [put_n])) only [wpS, wpT, Nat.reduceEqDiff, reduceIte, Nat.reduceLT, Nat.reduceLeDiff, Nat.reduceAdd, Nat.reduceMul, Nat.reduceBEq, Int.reduceToNat, zc32, zc33, ld32, bv32, st32, st33, zc121, st121, ld121, ld33, u121, zc3, bs33, fa32_0, st3, fa32_1, ld30, es30, ld52, zc52, st52, ar52, ld3, bv52, pl52_0, pl52_1, bs30, st30, ln33, ba33_33, ln30, ba30_30, f4, f5, rg1, rg2, List.drop_zero, take2, splice2]
      exact ⟨(j.e.put (by omega) _).put (by omega) _, out, x, rfl, jacc.sl.keep k2, j.sx.keep k2⟩
end Go.Id
