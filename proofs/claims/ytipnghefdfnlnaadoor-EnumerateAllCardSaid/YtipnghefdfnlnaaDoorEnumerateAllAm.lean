/-
  A list that branches: appends to a block that others of its family lie above; a list of lists beside it. Contracts: the districts of a plan as a map; lists that rise; plans compared; lists that contain. Contracts: a list that contains; a plan's copy; lists that became plans. Contracts: EnumerateAll's search.
-/
import Derived.Test.YtipnghefdfnlnaaDoorEnumerateAllAl
import Derived.Test.YtipnghefdfnlnaaDoorEnumerateAllAh
import Derived.Test.YtipnghefdfnlnaaDoorEnumerateAllAk
set_option linter.unusedVariables false
set_option linter.unusedSimpArgs false
set_option linter.defProp false
set_option linter.deprecated false
/-! A list that branches: appends to a block that others of its family lie above; a list of lists beside it. -/
namespace Go.Id
open Go
theorem killAll_get : ∀ (l : List Nat) (e : Tr IObj) (j : Nat), (IH.killAll e l).get j = if j ∈ l then some .dead else e.get j
  | [], _, _ => by simp [IH.killAll]
  | k :: l, e, j => by
    rw [IH.killAll, killAll_get l, Tr.get_set]
    by_cases h1 : j ∈ l
    · simp [h1]
    · by_cases h2 : j = k
      · simp [h2]
      · simp [h1, h2]
def Mine (h : IH) (f j : Nat) : Prop := h.ext.get j = some .dead ∨ ∃ c e, h.ext.get j = some (.cells c e (some f))
def Under (h : IH) (n1 k : Nat) (cs : List Value) (fam : Option Nat) (below : List Nat) : Prop :=
  k < h.n ∧ k < n1 ∧ h.ext.get k = some (.cells cs 1 fam) ∧ match fam with
    | none => below = []
    | some f => f < h.n ∧ ∃ above, h.fams.get f = some (above ++ k :: below) ∧ ∀ j ∈ above, n1 ≤ j ∧ j < h.n ∧ Mine h f j
theorem app_under {h : IH} {n1 k : Nat} {cs : List Value} {fam : Option Nat} {below : List Nat} (u : Under h n1 k cs fam below) {n : Nat} (hl : cs.length = n) (hn : 0 < n) (h1 : n1 ≤ h.n) {P : Program} {t : TypeId} {bytes : Nat} (hT : appT P t = some (1, bytes)) {x : Value} (hc : cellOK x = true)
    (hsz : (n + 1) * (bytes + 1) ≤ 1099511627776) :
    ∃ g f, append P (h.new (.cells [x] 1 none)) t (.slice (some ⟨2 * k, 0, none⟩) n (2 * n)) (.slice (some ⟨2 * h.n, 0, none⟩) 1 3) = some (.slice (some ⟨2 * (h.n + 1), 0, none⟩) (n + 1) (2 * (n + 1)), g) ∧ (fam = some f ∨ (fam = none ∧ f = h.n + 1)) ∧ g.n = h.n + 2 ∧ g.base = h.base ∧
      g.ext.get (h.n + 1) = some (.cells (cs ++ [x]) 1 (some f)) ∧ g.ext.get k = some (.cells cs 1 (some f)) ∧ g.fams.get f = some ((h.n + 1) :: k :: below) ∧
      (∀ j, j < h.n → j ≠ k → g.ext.get j = h.ext.get j ∨ (n1 ≤ j ∧ Mine h f j ∧ fam = some f)) ∧ (∀ q, q < h.n → q ≠ f → g.fams.get q = h.fams.get q) := by
  unfold appT at hT
  split at hT
  case h_2 => cases hT
  rename_i e hu
  split at hT
  case h_2 => cases hT
  rename_i zs t1 t2 t3
  simp only [cond_eq_ite] at hT
  split at hT
  case isTrue => cases hT
  rename_i hbad
  cases hT
  have hbad' : (!(Nat.ble bytes 65536) || !(zs.length == 1)) = false := by simpa using hbad
  have hmne : ((1 : Nat) == 0) = false := by simp
  obtain ⟨u1, u2, u3, u4⟩ := u
  have hk2 : 2 * k / 2 = k := by omega
  have hkm : 2 * k % 2 = 0 := by omega
  have hrow : (h.new (.cells [x] 1 none)).row (2 * h.n) = some [x] := by rw [row_even]; simp only [IH.cells]; rw [get_new_same _ _ rfl]
  have hfirst : firstOf (h.new (.cells [x] 1 none)) 1 1 (.slice (some ⟨2 * h.n, 0, none⟩) 1 3) = some [x] := by
    simp only [firstOf, cond_eq_ite, Nat.ble_eq, Nat.le_refl, if_true, beq_iff_eq]
    rw [if_neg (by omega), rd_of hrow]; simp
  have hc' : [x].all cellOK = true := by simp [hc]
  have hlx : lenOf (.slice (some ⟨2 * h.n, 0, none⟩) 1 3) = some 1 := rfl
  have hble : Nat.ble ((n + 1) * (bytes + 1)) sizeMost = true := by rw [Nat.ble_eq]; exact hsz
  have hcap : Nat.ble (n + 1) (2 * n / 2) = false := by
    rw [Bool.eq_false_iff]; intro hh; rw [Nat.ble_eq] at hh; omega
  have hodd : (2 * n % 2 == 1) = false := by simp
  have hlen : (n == 2 * n / 2 && Nat.blt 0 n && (2 * k) % 2 == 0) = true := by
    have : 2 * n / 2 = n := by omega
    simp [this, Nat.blt, Nat.ble_eq]; omega
  have hend : (0 + n * 1 == cs.length && 1 == 1) = true := by simp [hl]
  have g3 : (h.new (.cells [x] 1 none)).ext.get k = some (.cells cs 1 fam) := by rw [get_new_old _ _ (by omega)]; exact u3
  cases fam with
  | none =>
    refine ⟨grown (h.new (.cells [x] 1 none)) k (h.n + 1) cs 1 [] [] (cs.drop 0 ++ [x]) 1, h.n + 1, ?_, .inr ⟨rfl, rfl⟩, rfl, rfl, ?_, ?_, ?_, fun j hj hne => .inl ?_, fun q hq hne => ?_⟩
    · simp only [Id.append, hu, t1, t2, t3, hlx, hmne, Bool.false_or, hbad', hfirst, hc', hble, hcap, hodd, hlen, hk2, g3, hend, cond_true, cond_false, Bool.not_true, new_n]
    · simp [grown, IH.killAll, Tr.get_set]
    · simp only [grown, IH.killAll, Tr.get_set, new_n]; rw [if_neg (by omega), if_pos trivial]
    · simp only at u4
      simp [grown, Tr.get_set, u4]
    · simp only [grown, IH.killAll, Tr.get_set, new_n]; rw [if_neg (by omega), if_neg hne, get_new_old _ _ (by omega)]
    · simp only [grown, Tr.get_set, new_n, new_fams]; rw [if_neg (by omega)]
  | some f =>
    obtain ⟨f1, above, f2, f3⟩ := u4
    have hka : k ∉ above := fun hm => by have := (f3 k hm).1; omega
    have t1' : (above ++ k :: below).takeWhile (· != k) = above := by
      rw [List.takeWhile_append_of_pos (fun a ha => by simp; rintro rfl; exact hka ha)]; simp
    have t2' : ((above ++ k :: below).dropWhile (· != k)).drop 1 = below := by
      rw [List.dropWhile_append_of_pos (fun a ha => by simp; rintro rfl; exact hka ha)]; simp
    have f2' : (h.new (.cells [x] 1 none)).fams.get f = some (above ++ k :: below) := f2
    refine ⟨grown (h.new (.cells [x] 1 none)) k f cs 1 above below (cs.drop 0 ++ [x]) 1, f, ?_, .inl rfl, rfl, rfl, ?_, ?_, ?_, fun j hj hne => ?_, fun q hq hne => ?_⟩
    · simp only [Id.append, hu, t1, t2, t3, hlx, hmne, Bool.false_or, hbad', hfirst, hc', hble, hcap, hodd, hlen, hk2, g3, hend, f2', t1', t2', cond_true, cond_false, Bool.not_true, new_n]
    · simp [grown, Tr.get_set]
    · simp only [grown, Tr.get_set, new_n]; rw [if_neg (by omega), if_pos trivial]
    · simp [grown, Tr.get_set]
    · by_cases hja : j ∈ above
      · exact .inr ⟨(f3 j hja).1, (f3 j hja).2.2, rfl⟩
      · refine .inl ?_
        simp only [grown, Tr.get_set, new_n]; rw [if_neg (by omega), if_neg hne, killAll_get, if_neg hja, get_new_old _ _ (by omega)]
    · simp only [grown, Tr.get_set, new_n, new_fams]; rw [if_neg hne]
def clv (n j : Nat) : Value := .slice (some ⟨2 * j, 0, none⟩) n (2 * n)
def WantAt (h : IH) (bw n : Nat) (kw fw : Option Nat) (qs : List (List Nat)) (js : List Nat) : Prop :=
  ∃ wv, h.ext.get bw = some (.cells [wv] 0 none) ∧ js.length = qs.length ∧ (∀ (i : Nat) (q : List Nat) (j : Nat), qs[i]? = some q → js[i]? = some j → q.length = n ∧ j < h.n ∧ h.ext.get j = some (.cells (i64s q) 1 none)) ∧
    ((kw = none ∧ fw = none ∧ wv = .slice none 0 0 ∧ qs = []) ∨ ∃ k, kw = some k ∧ AccK h 0 1 wv qs.length (js.map (clv n)) k fw)
def PAt (h : IH) (n1 : Nat) (v : Value) (p : List Nat) (k fam : Option Nat) (below : List Nat) : Prop :=
  (k = none ∧ v = .slice none 0 0 ∧ p = [] ∧ fam = none ∧ below = []) ∨ ∃ k0, k = some k0 ∧ v = clv p.length k0 ∧ 0 < p.length ∧ Under h n1 k0 (i64s p) fam below
structure GSt (R h : IH) (n1 bw n : Nat) (v : Value) (p : List Nat) (k fam : Option Nat) (below : List Nat) (kw fw : Option Nat) (qs : List (List Nat)) (js : List Nat) : Prop where
  hn : R.n ≤ h.n
  base : h.base = R.base
  root : ∀ j, j < R.n → j ≠ bw → h.ext.get j = R.ext.get j
  hb : bw < R.n
  nle : n1 ≤ h.n
  rn1 : R.n ≤ n1
  pa : PAt h n1 v p k fam below
  wa : WantAt h bw n kw fw qs js
  d : ∀ f, fam = some f → fw ≠ some f
  kk : ∀ j, k = some j → R.n ≤ j ∧ kw ≠ some j ∧ j ∉ js
  wk : ∀ j, kw = some j → R.n ≤ j
  wj : ∀ j ∈ js, R.n ≤ j
structure Fra (h g : IH) (bw : Nat) (k kw : Option Nat) : Prop where
  n : h.n ≤ g.n
  get : ∀ j, j < h.n → j ≠ bw → k ≠ some j → kw ≠ some j → g.ext.get j = h.ext.get j
theorem Fra.refl (h : IH) (bw : Nat) (k kw : Option Nat) : Fra h h bw k kw := ⟨Nat.le_refl _, fun _ _ _ _ _ => rfl⟩
theorem PAt.ext {h g : IH} {n1 : Nat} {v : Value} {p : List Nat} {k fam : Option Nat} {below : List Nat} (a : PAt h n1 v p k fam below) (e : Ext h g) : PAt g n1 v p k fam below := by
  rcases a with a | ⟨k0, a1, a2, a3, a4, a5, a6, a7⟩
  · exact .inl a
  · refine .inr ⟨k0, a1, a2, a3, by have := e.n; omega, a5, by rw [e.get _ a4]; exact a6, ?_⟩
    cases fam with
    | none => exact a7
    | some f =>
      obtain ⟨b1, above, b2, b3⟩ := a7
      refine ⟨by have := e.n; omega, above, by rw [e.fams f b1]; exact b2, fun j hj => ?_⟩
      obtain ⟨c1, c2, c3⟩ := b3 j hj
      refine ⟨c1, by have := e.n; omega, ?_⟩
      unfold Mine
      rw [e.get j c2]; exact c3
theorem AccK.ext {h g : IH} {n0 sz : Nat} {v : Value} {n : Nat} {cs : List Value} {k : Nat} {fam : Option Nat} (a : AccK h n0 sz v n cs k fam) (e : Ext h g) : AccK g n0 sz v n cs k fam :=
  a.other e.n (e.get _ a.2.2.2.2.2.1) fun f hf => e.fams f (by
    obtain ⟨_, _, _, _, _, _, _, t⟩ := a
    subst hf
    exact t.2.1)
theorem WantAt.ext {h g : IH} {bw n : Nat} {kw fw : Option Nat} {qs : List (List Nat)} {js : List Nat} (a : WantAt h bw n kw fw qs js) (hb : bw < h.n) (e : Ext h g) : WantAt g bw n kw fw qs js := by
  obtain ⟨wv, a1, a2, a3, a4⟩ := a
  refine ⟨wv, by rw [e.get _ hb]; exact a1, a2, fun i q j h1 h2 => ?_, ?_⟩
  · obtain ⟨b1, b2, b3⟩ := a3 i q j h1 h2
    exact ⟨b1, by have := e.n; omega, by rw [e.get _ b2]; exact b3⟩
  · rcases a4 with a4 | ⟨k, b1, b2⟩
    · exact .inl a4
    · exact .inr ⟨k, b1, b2.ext e⟩
theorem GSt.ext {R h g : IH} {n1 bw n : Nat} {v : Value} {p : List Nat} {k fam : Option Nat} {below : List Nat} {kw fw : Option Nat} {qs : List (List Nat)} {js : List Nat} (s : GSt R h n1 bw n v p k fam below kw fw qs js) (e : Ext h g) : GSt R g n1 bw n v p k fam below kw fw qs js :=
  { hn := by have := s.hn; have := e.n; omega
    base := by rw [e.base]; exact s.base
    root := fun j hj hb => by rw [e.get _ (by have := s.hn; omega)]; exact s.root j hj hb
    hb := s.hb
    nle := by have := s.nle; have := e.n; omega
    rn1 := s.rn1
    pa := s.pa.ext e
    wa := s.wa.ext (by have := s.hb; have := s.hn; omega) e
    d := s.d, kk := s.kk, wk := s.wk, wj := s.wj }
theorem WantAt.other {h g : IH} {bw n : Nat} {kw fw : Option Nat} {qs : List (List Nat)} {js : List Nat} (a : WantAt h bw n kw fw qs js) (hn : h.n ≤ g.n) (hb : g.ext.get bw = h.ext.get bw) (hk : ∀ j, kw = some j → g.ext.get j = h.ext.get j) (hj : ∀ j ∈ js, g.ext.get j = h.ext.get j)
    (hf : ∀ q, fw = some q → q < h.n → g.fams.get q = h.fams.get q) : WantAt g bw n kw fw qs js := by
  obtain ⟨wv, a1, a2, a3, a4⟩ := a
  refine ⟨wv, by rw [hb]; exact a1, a2, fun i q j h1 h2 => ?_, ?_⟩
  · obtain ⟨b1, b2, b3⟩ := a3 i q j h1 h2
    exact ⟨b1, by omega, by rw [hj j (List.mem_of_getElem? h2)]; exact b3⟩
  · rcases a4 with a4 | ⟨k, b1, b2⟩
    · exact .inl a4
    · refine .inr ⟨k, b1, b2.other hn (hk k b1) fun f he => hf f he ?_⟩
      obtain ⟨_, _, _, _, _, _, _, t⟩ := b2
      subst he
      exact t.2.1
theorem WantAt.js {h : IH} {bw n : Nat} {kw fw : Option Nat} {qs : List (List Nat)} {js : List Nat} (a : WantAt h bw n kw fw qs js) {j : Nat} (hj : j ∈ js) : j < h.n ∧ ∃ c, h.ext.get j = some (.cells c 1 none) := by
  obtain ⟨wv, a1, a2, a3, a4⟩ := a
  obtain ⟨i, hi, rfl⟩ := List.mem_iff_getElem.1 hj
  obtain ⟨b1, b2, b3⟩ := a3 i (qs[i]'(by omega)) js[i] (List.getElem?_eq_getElem _) (List.getElem?_eq_getElem _)
  exact ⟨b2, _, b3⟩
theorem WantAt.kw {h : IH} {bw n : Nat} {kw fw : Option Nat} {qs : List (List Nat)} {js : List Nat} (a : WantAt h bw n kw fw qs js) {j : Nat} (hj : kw = some j) : j < h.n ∧ ∃ c, h.ext.get j = some (.cells c 1 fw) := by
  obtain ⟨wv, a1, a2, a3, a4⟩ := a
  rcases a4 with ⟨a4, _⟩ | ⟨k, b1, b2⟩
  · rw [a4] at hj; cases hj
  · rw [b1] at hj; cases hj
    exact ⟨b2.2.2.2.2.2.1, _, b2.2.2.2.2.2.2.1⟩
theorem WantAt.fw {h : IH} {bw n : Nat} {kw fw : Option Nat} {qs : List (List Nat)} {js : List Nat} (a : WantAt h bw n kw fw qs js) {f : Nat} (hf : fw = some f) : f < h.n := by
  obtain ⟨wv, a1, a2, a3, a4⟩ := a
  rcases a4 with ⟨_, a4, _⟩ | ⟨k, b1, b2⟩
  · rw [a4] at hf; cases hf
  · obtain ⟨_, _, _, _, _, _, _, t⟩ := b2
    subst hf
    exact t.2.1
theorem Mine.no {h : IH} {f j : Nat} {c : List Value} {e : Nat} {g : Option Nat} (m : Mine h f j) (hg : h.ext.get j = some (.cells c e g)) (hne : g ≠ some f) : False := by
  rcases m with m | ⟨c', e', m⟩
  · rw [hg] at m; cases m
  · rw [hg] at m; cases m; exact hne rfl
theorem GSt.push {R h : IH} {n1 bw n : Nat} {v : Value} {p : List Nat} {k fam : Option Nat} {below : List Nat} {kw fw : Option Nat} {qs : List (List Nat)} {js : List Nat} (s : GSt R h n1 bw n v p k fam below kw fw qs js)
    {P : Program} {t : TypeId} {bytes : Nat} (hT : appT P t = some (1, bytes)) (c : Nat) (hsz : (p.length + 1) * (bytes + 1) ≤ 1099511627776) :
    ∃ v' g k' fam' below', append P (h.new (.cells [KN c] 1 none)) t v (.slice (some ⟨2 * h.n, 0, none⟩) 1 3) = some (v', g) ∧ h.n ≤ k' ∧ k' < g.n ∧ GSt R g g.n bw n v' (p ++ [c]) (some k') fam' below' kw fw qs js ∧
      (∀ j, j < n1 → k ≠ some j → g.ext.get j = h.ext.get j) ∧ (∀ k0, k = some k0 → below' = k0 :: below ∧ ∃ f, fam' = some f ∧ (∀ f', fam = some f' → f' = f) ∧ g.ext.get k0 = some (.cells (i64s p) 1 (some f))) := by
  have hhb := s.hb
  have hRn := s.hn
  have hn1 := s.nle
  have hr1 := s.rn1
  have hc : cellOK (KN c) = true := rfl
  rcases s.pa with ⟨rfl, rfl, rfl, rfl, rfl⟩ | ⟨k0, rfl, rfl, a3, a4⟩
  · have hS : SlNow (h.new (.cells [KN c] 1 none)) 1 (.slice (some ⟨2 * h.n, 0, none⟩) 1 3) 1 [KN c] := (built_sl h (by omega) rfl (by omega)).now
    have e : Ext h ((h.new (.cells [KN c] 1 none)).new (.cells [KN c] 1 none)) := ((Ext.refl h).new _).new _
    have s' := s.ext e
    refine ⟨clv 1 (h.n + 1), _, h.n + 1, none, [], append_none hT _ hS (by omega) (by simp [hc]) (by simpa using hsz), by omega, by simp, ?_, fun j hj _ => e.get j (by omega), fun k0 h0 => by cases h0⟩
    exact { hn := s'.hn, base := s'.base, root := s'.root, hb := s'.hb, nle := Nat.le_refl _, rn1 := s'.hn, wa := s'.wa
            pa := .inr ⟨h.n + 1, rfl, rfl, by simp, by simp, by simp, by simp [get_new, i64s], rfl⟩
            d := fun f hf => by cases hf
            kk := fun j hj => by
              cases hj
              refine ⟨by omega, fun hk => ?_, fun hk => ?_⟩
              · have := (s.wa.kw hk).1; omega
              · have := (s.wa.js hk).1; omega
            wk := s.wk, wj := s.wj }
  · have hl : (i64s p).length = p.length := i64s_len p
    obtain ⟨g, f, b1, b2, b3, b4, b5, b6, b7, b8, b9⟩ := app_under a4 hl a3 hn1 hT hc hsz
    obtain ⟨c1, c2, c3, c4⟩ := a4
    obtain ⟨hk1, hk2, hk3⟩ := s.kk k0 rfl
    have hff : fw ≠ some f := by
      rcases b2 with b2 | ⟨_, b2⟩
      · exact s.d f b2
      · intro hf
        have := s.wa.fw hf
        omega
    have hw : WantAt g bw n kw fw qs js := by
      refine s.wa.other (by omega) ?_ (fun j hj => ?_) (fun j hj => ?_) (fun q hq hl => b9 q hl fun he => hff (by rw [hq, he]))
      · obtain ⟨wv, a1, _⟩ := s.wa
        rcases b8 bw (by omega) (by omega) with h1 | ⟨_, h1, _⟩
        · exact h1
        · exact (h1.no a1 (by simp)).elim
      · obtain ⟨d1, cc, d2⟩ := s.wa.kw hj
        rcases b8 j d1 (fun he => hk2 (by rw [hj, he])) with h1 | ⟨_, h1, _⟩
        · exact h1
        · exact (h1.no d2 hff).elim
      · obtain ⟨d1, cc, d2⟩ := s.wa.js hj
        rcases b8 j d1 (fun he => hk3 (he ▸ hj)) with h1 | ⟨_, h1, _⟩
        · exact h1
        · exact (h1.no d2 (by simp)).elim
    have hlow : ∀ j, j < n1 → j ≠ k0 → g.ext.get j = h.ext.get j := fun j hj hne => by
      rcases b8 j (by omega) hne with h1 | ⟨h1, _⟩
      · exact h1
      · omega
    refine ⟨clv (p.length + 1) (h.n + 1), g, h.n + 1, some f, k0 :: below, b1, by omega, by omega, ?_, fun j hj hne => hlow j hj fun he => hne (by rw [he]), fun k1 h1 => ?_⟩
    · exact { hn := by omega, base := by rw [b4]; exact s.base, root := fun j hj hb => by rw [hlow j (by omega) (by omega)]; exact s.root j hj hb
              hb := s.hb, nle := Nat.le_refl _, rn1 := by omega, wa := hw
              pa := .inr ⟨h.n + 1, rfl, by rw [List.length_append]; rfl, by simp, by omega, by omega, by rw [b5]; simp [i64s], by
                rcases b2 with b2 | ⟨_, b2⟩
                · subst b2; have := c4.1; omega
                · omega, [], b7, fun j hj => by cases hj⟩
              d := fun f' hf' => by cases hf'; exact hff
              kk := fun j hj => by
                cases hj
                refine ⟨by omega, fun hk => ?_, fun hk => ?_⟩
                · have := (s.wa.kw hk).1; omega
                · have := (s.wa.js hk).1; omega
              wk := s.wk, wj := s.wj }
    · cases h1
      refine ⟨rfl, f, rfl, fun f' hf' => ?_, b6⟩
      rcases b2 with b2 | ⟨b2, _⟩
      · rw [b2] at hf'; cases hf'; rfl
      · rw [b2] at hf'; cases hf'
theorem GSt.pop {R h g g2 : IH} {n1 bw n : Nat} {v v' : Value} {p : List Nat} {c : Nat} {k fam : Option Nat} {below : List Nat} {kw fw kw2 fw2 : Option Nat} {qs qs2 : List (List Nat)} {js js1 : List Nat} (s : GSt R h n1 bw n v p k fam below kw fw qs js)
    {k' : Nat} {fam' fam2 : Option Nat} {below' : List Nat} (hk' : h.n ≤ k') (hk2 : k' < g.n) (hgn : h.n ≤ g.n) (hf : ∀ k0, k = some k0 → below' = k0 :: below ∧ ∃ f, fam' = some f ∧ (∀ f', fam = some f' → f' = f) ∧ g.ext.get k0 = some (.cells (i64s p) 1 (some f)))
    (s2 : GSt R g2 g.n bw n v' (p ++ [c]) (some k') fam2 below' kw2 fw2 qs2 (js ++ js1)) (hfam : ∀ f, fam' = some f → fam2 = some f) (F : Fra g g2 bw (some k') kw) (hkw : kw2 = kw ∨ ∃ j, kw2 = some j ∧ h.n ≤ j) (hjs : ∀ j ∈ js1, h.n ≤ j) :
    ∃ fam3, GSt R g2 n1 bw n v p k fam3 below kw2 fw2 qs2 (js ++ js1) ∧ ∀ f, fam = some f → fam3 = some f := by
  have hhb := s.hb
  have hRn := s.hn
  have hn1 := s.nle
  have hr1 := s.rn1
  have hFn := F.n
  have key : ∀ fam3, PAt g2 n1 v p k fam3 below → (∀ f, fam3 = some f → fw2 ≠ some f) → GSt R g2 n1 bw n v p k fam3 below kw2 fw2 qs2 (js ++ js1) := fun fam3 hp hd =>
    { hn := s2.hn, base := s2.base, root := s2.root, hb := s2.hb, nle := by omega, rn1 := hr1, pa := hp, wa := s2.wa, d := hd
      kk := fun j hj => by
        obtain ⟨h1, h2, h3⟩ := s.kk j hj
        have hjn : j < h.n := by
          rcases s.pa with ⟨rfl, _⟩ | ⟨k0, rfl, _, _, a4⟩
          · cases hj
          · cases hj; exact a4.1
        refine ⟨h1, fun he => ?_, fun he => ?_⟩
        · rcases hkw with h4 | ⟨i, h4, h5⟩
          · exact h2 (by rw [← h4, he])
          · rw [h4] at he; cases he; omega
        · rcases List.mem_append.1 he with h4 | h4
          · exact h3 h4
          · have := hjs j h4; omega
      wk := s2.wk, wj := s2.wj }
  rcases s.pa with ⟨rfl, rfl, rfl, rfl, rfl⟩ | ⟨k0, rfl, rfl, a3, a4⟩
  · exact ⟨none, key none (.inl ⟨rfl, rfl, rfl, rfl, rfl⟩) (fun f hf => by cases hf), fun f hf => by cases hf⟩
  · obtain ⟨rfl, f, rfl, hff, hg0⟩ := hf k0 rfl
    have hfam2 := hfam f rfl
    subst hfam2
    obtain ⟨h1, h2, h3⟩ := s.kk k0 rfl
    have hk0 : k0 < h.n := a4.1
    have hg2 : g2.ext.get k0 = some (.cells (i64s p) 1 (some f)) := by
      rw [F.get k0 (by omega) (by omega) (fun he => by cases he; omega) h2, hg0]
    rcases s2.pa with ⟨h4, _⟩ | ⟨k1, h4, _, _, b4⟩
    · cases h4
    · cases h4
      obtain ⟨b5, b6, b7, b8, above, b9, b10⟩ := b4
      refine ⟨some f, key (some f) (.inr ⟨k0, rfl, rfl, a3, by omega, a4.2.1, hg2, b8, above ++ [k'], by rw [b9]; simp, fun j hj => ?_⟩) s2.d, fun f' hf' => by rw [hff f' hf']⟩
      rcases List.mem_append.1 hj with hj | hj
      · obtain ⟨c1, c2, c3⟩ := b10 j hj
        exact ⟨by omega, c2, c3⟩
      · rw [List.mem_singleton] at hj
        subst hj
        exact ⟨by omega, b5, .inr ⟨_, _, b7⟩⟩
theorem WantAt.nokw {h : IH} {bw n : Nat} {kw fw : Option Nat} {qs : List (List Nat)} {js : List Nat} (a : WantAt h bw n kw fw qs js) (hn : 0 < n) {j : Nat} (hk : kw = some j) {q : List Nat} {e : Nat} {f : Option Nat} (hg : h.ext.get j = some (.cells (i64s q) e f)) (hq : q.length = n) : False := by
  obtain ⟨wv, a1, a2, a3, a4⟩ := a
  rcases a4 with ⟨a4, _⟩ | ⟨k, b1, b2⟩
  · rw [a4] at hk; cases hk
  · rw [b1] at hk; cases hk
    obtain ⟨_, c1, _, c2, _, _, c3, _⟩ := b2
    rw [hg] at c3
    cases js with
    | nil => simp at a2; omega
    | cons x js =>
      cases q with
      | nil => simp at hq; omega
      | cons y q => simp [i64s, clv] at c3
theorem GSt.emit {R h : IH} {n1 bw n : Nat} {v : Value} {p : List Nat} {k fam : Option Nat} {below : List Nat} {kw fw : Option Nat} {qs : List (List Nat)} {js : List Nat} (s : GSt R h n1 bw n v p k fam below kw fw qs js)
    {P : Program} {t : TypeId} {bytes : Nat} (hT : appT P t = some (1, bytes)) {jc : Nat} {q : List Nat} (hj : jc < h.n) (hjR : R.n ≤ jc) (hq : q.length = n) (hn0 : 0 < n) (hg : h.ext.get jc = some (.cells (i64s q) 1 none)) (hjk : k ≠ some jc) (hsz : (qs.length + 1) * (bytes + 1) ≤ 1099511627776) :
    ∃ wv wv' g kw' fw', h.ext.get bw = some (.cells [wv] 0 none) ∧ append P (h.new (.cells [clv n jc] 1 none)) t wv (.slice (some ⟨2 * h.n, 0, none⟩) 1 3) = some (wv', g) ∧ g.ext.get bw = some (.cells [wv] 0 none) ∧ (∃ cs, SlOf g 1 wv' (qs.length + 1) cs) ∧
      GSt R (g.put bw (.cells [wv'] 0 none)) n1 bw n v p k fam below kw' fw' (qs ++ [q]) (js ++ [jc]) ∧ (∃ j, kw' = some j ∧ h.n ≤ j) ∧ Fra h (g.put bw (.cells [wv'] 0 none)) bw k kw := by
  have hbw := s.hb
  have hRn := s.hn
  have hn1 := s.nle
  have hr1 := s.rn1
  have hc : cellOK (clv n jc) = true := rfl
  have hS : SlNow (h.new (.cells [clv n jc] 1 none)) 1 (.slice (some ⟨2 * h.n, 0, none⟩) 1 3) 1 [clv n jc] := (built_sl h (by omega) rfl (by omega)).now
  have e1 : Ext h (h.new (.cells [clv n jc] 1 none)) := (Ext.refl h).new _
  have hbj : bw ≠ jc := by omega
  have hjs : ∀ j ∈ js, j < h.n ∧ j ≠ bw := fun j hm => ⟨(s.wa.js hm).1, by have := s.wj j hm; omega⟩
  have fin : ∀ (wv wv' : Value) (g : IH) (k' : Nat) (fw' : Option Nat), h.ext.get bw = some (.cells [wv] 0 none) → h.n ≤ k' → AccK g 0 1 wv' (qs.length + 1) ((js ++ [jc]).map (clv n)) k' fw' → h.n ≤ g.n → g.base = h.base → (∀ j, j < h.n → kw ≠ some j → g.ext.get j = h.ext.get j) →
      (∀ f, fam = some f → fw' ≠ some f) → (∀ f, fam = some f → g.fams.get f = h.fams.get f) →
      GSt R (g.put bw (.cells [wv'] 0 none)) n1 bw n v p k fam below (some k') fw' (qs ++ [q]) (js ++ [jc]) ∧ (∃ j, some k' = some j ∧ h.n ≤ j) ∧ Fra h (g.put bw (.cells [wv'] 0 none)) bw k kw := by
    intro wv wv' g k' fw' hwv hk' hA hgn hgb hget hd hfam
    have hput : ∀ j, j < h.n → j ≠ bw → kw ≠ some j → (g.put bw (.cells [wv'] 0 none)).ext.get j = h.ext.get j := fun j h1 h2 h3 => by rw [get_put_old _ _ h2]; exact hget j h1 h3
    refine ⟨?_, ⟨k', rfl, hk'⟩, ⟨by simpa using hgn, fun j h1 h2 _ h3 => hput j h1 h2 h3⟩⟩
    have hA' : AccK (g.put bw (.cells [wv'] 0 none)) 0 1 wv' (qs.length + 1) ((js ++ [jc]).map (clv n)) k' fw' := hA.other (Nat.le_refl _) (get_put_old _ _ (by omega)) fun _ _ => rfl
    have hlen : js.length = qs.length := by obtain ⟨_, _, a2, _⟩ := s.wa; exact a2
    exact { hn := by simp; omega, base := by show g.base = R.base; rw [hgb]; exact s.base
            root := fun j h1 h2 => by rw [hput j (by omega) h2 (fun he => by have := s.wk j he; omega)]; exact s.root j h1 h2
            hb := s.hb, nle := by simp; omega, rn1 := s.rn1
            pa := by
              rcases s.pa with a | ⟨k0, a1, a2, a3, a4, a5, a6, a7⟩
              · exact .inl a
              · obtain ⟨b1, b2, b3⟩ := s.kk k0 a1
                refine .inr ⟨k0, a1, a2, a3, by simp; omega, a5, by rw [hput k0 a4 (by omega) b2]; exact a6, ?_⟩
                cases fam with
                | none => exact a7
                | some f =>
                  obtain ⟨c1, above, c2, c3⟩ := a7
                  refine ⟨by simp; omega, above, by show g.fams.get f = _; rw [hfam f rfl]; exact c2, fun j hja => ?_⟩
                  obtain ⟨d1, d2, d3⟩ := c3 j hja
                  refine ⟨d1, by simp; omega, ?_⟩
                  have hkj : kw ≠ some j := fun he => by
                    obtain ⟨_, cc, e2⟩ := s.wa.kw he
                    exact d3.no e2 (s.d f rfl)
                  unfold Mine
                  rw [hput j d2 (by omega) hkj]; exact d3
            wa := by
              obtain ⟨wv0, a1, a2, a3, a4⟩ := s.wa
              refine ⟨wv', get_put_same _ _ rfl, by simp [a2], fun i q' j h1 h2 => ?_, .inr ⟨k', rfl, by rw [List.length_append]; exact hA'⟩⟩
              rcases Nat.lt_or_ge i qs.length with hi | hi
              · rw [List.getElem?_append_left hi] at h1
                rw [List.getElem?_append_left (by omega)] at h2
                obtain ⟨b1, b2, b3⟩ := a3 i q' j h1 h2
                have hm := List.mem_of_getElem? h2
                refine ⟨b1, by simp; omega, ?_⟩
                rw [hput j b2 (hjs j hm).2 (fun he => s.wa.nokw hn0 he b3 b1)]
                exact b3
              · rw [List.getElem?_append_right hi] at h1
                rw [List.getElem?_append_right (by omega), a2] at h2
                cases hx : i - qs.length with
                | zero =>
                  rw [hx] at h1 h2
                  simp at h1 h2
                  subst h1 h2
                  exact ⟨hq, by simp; omega, by rw [hput jc hj (Ne.symm hbj) (fun he => s.wa.nokw hn0 he hg hq)]; exact hg⟩
                | succ m => rw [hx] at h1; simp at h1
            d := hd
            kk := fun j h1 => by
              obtain ⟨b1, b2, b3⟩ := s.kk j h1
              have hjn : j < h.n := by
                rcases s.pa with ⟨a, _⟩ | ⟨k0, a, _, _, a4⟩
                · rw [a] at h1; cases h1
                · rw [a] at h1; cases h1; exact a4.1
              refine ⟨b1, fun he => by cases he; omega, fun he => ?_⟩
              rcases List.mem_append.1 he with h4 | h4
              · exact b3 h4
              · rw [List.mem_singleton] at h4
                exact hjk (by rw [h1, h4])
            wk := fun j h1 => by cases h1; omega
            wj := fun j h1 => by
              rcases List.mem_append.1 h1 with h4 | h4
              · exact s.wj j h4
              · rw [List.mem_singleton] at h4; omega }
  obtain ⟨wv, a1, a2, a3, a4⟩ := s.wa
  have hwb : wv = wv := rfl
  rcases a4 with ⟨rfl, rfl, rfl, rfl⟩ | ⟨k1, rfl, hA⟩
  · have hj0 : js = [] := List.length_eq_zero_iff.1 (by simpa using a2)
    subst hj0
    have e : Ext h ((h.new (.cells [clv n jc] 1 none)).new (.cells [clv n jc] 1 none)) := e1.new _
    have hA : AccK ((h.new (.cells [clv n jc] 1 none)).new (.cells [clv n jc] 1 none)) 0 1 (.slice (some ⟨2 * (h.n + 1), 0, none⟩) 1 (2 * 1)) 1 [clv n jc] (h.n + 1) none := ⟨by omega, rfl, rfl, by omega, by omega, by simp, by simp [get_new], trivial⟩
    exact ⟨_, _, _, _, none, a1, append_none hT _ hS (by omega) (by simp [hc]) (by simpa using hsz), by rw [e.get _ (by omega)]; exact a1, ⟨_, hA.acc.sl⟩, fin _ _ _ (h.n + 1) none a1 (by omega) hA (by simp; omega) rfl (fun j h1 _ => e.get j h1) (fun f _ h2 => by cases h2) (fun _ _ => rfl)⟩
  · have hk1 : k1 < h.n := hA.2.2.2.2.2.1
    have hR1 := s.wk k1 rfl
    have hx : h.n + 1 = (h.new (.cells [clv n jc] 1 none)).n := rfl
    obtain ⟨g, f, b1, b2, b3, b4, b5, b6, b7, b8⟩ := (hA.ext e1).app hT hS (by omega) (by simp [hc]) hsz
    have hff : ∀ f', fam = some f' → (some f : Option Nat) ≠ some f' := fun f' hf' he => by
      cases he
      rcases b3 with b3 | ⟨b3, b9⟩
      · exact s.d f hf' b3
      · rcases s.pa with ⟨_, _, _, a, _⟩ | ⟨k0, _, _, _, a4⟩
        · rw [a] at hf'; cases hf'
        · subst hf'
          have h1 : f < h.n := a4.2.2.2.1
          rw [new_n] at b9; omega
    refine ⟨_, _, g, _, some f, a1, b1, ?_, ⟨_, b2.acc.sl⟩, fin _ _ _ (h.n + 1) (some f) a1 (by omega) (by rw [List.map_append]; exact b2) (by rw [new_n] at b4; omega) (by rw [b5]; rfl) (fun j h1 h2 => ?_) hff (fun f' hf' => ?_)⟩
    · rw [b6 bw (by simp; omega) (by omega), get_new_old _ _ (by omega)]; exact a1
    · rw [b6 j (by simp; omega) (fun he => h2 (by rw [he])), get_new_old _ _ (by omega)]
    · have h1 : f' < h.n := by
        rcases s.pa with ⟨_, _, _, a, _⟩ | ⟨k0, _, _, _, a4⟩
        · rw [a] at hf'; cases hf'
        · subst hf'; exact a4.2.2.2.1
      rw [b8 f' (by simp; omega) (s.d f' hf')]; rfl
theorem keep_it {h : IH} {k : Nat} {a b : Nat} {c : List Nat} {d : Nat} (hk : h.ext.get k = some (.iter a b c d)) (o : IObj) : Keep h (h.put k o) := ⟨Nat.le_refl _, rfl, fun j c e f1 hj hg he => by
  refine ⟨f1, ?_⟩
  rw [get_put, if_neg]
  · exact hg
  · rintro rfl; rw [hk] at hg; cases hg⟩
theorem mapOf_ev {h : IH} {k : Nat} {es : MapL} (hg : h.ext.get k = some (.map es)) : mapOf h (2 * k) = some es := by
  have h1 : (2 * k % 2 == 1) = false := by simp
  have h2 : 2 * k / 2 = k := by omega
  simp [mapOf, h2, hg]
theorem mapLoopR {P : Program} {fn : FuncId} {nt : Nat} {rd : Option Nat} {b : Code} {Q : IExit → Fr → IH → Prop} (I : Fr → Prop) (bad : Nat → Prop) {id it nx more : Nat} {rest : Code} {fr : Fr} {h : IH} {kb k : Nat} {es : List (Value × Value)}
    (g : h.ext.get kb = some (.iter k es.length [] es.length)) (hk : mapOf h k = some es) (i0 : I fr) (hI : ∀ fr, I fr → fget fr it = some (ptr (2 * kb) 0)) (hb : ∃ i, i < es.length ∧ bad i)
    (good : ∀ (i : Nat) (x : Value × Value) (fr : Fr) (s : List Nat), ¬ bad i → es[i]? = some x → I fr → Do (wpC P fn nt rd rest ((more, .bool true) :: (nx, .tuple #[.bool true, x.1, x.2]) :: fr) (atS h kb k es (s ++ [i]))) (roundK I (atS h kb k es (s ++ [i]))) Id.nx)
    (over : ∀ (i : Nat) (x : Value × Value) (fr : Fr) (s : List Nat), bad i → es[i]? = some x → I fr → Do (wpC P fn nt rd rest ((more, .bool true) :: (nx, .tuple #[.bool true, x.1, x.2]) :: fr) (atS h kb k es (s ++ [i]))) (overK .ret (fun _ => True) (atS h kb k es (s ++ [i]))) Id.nx)
    (hQ : ∀ F, Q .ret F { h with ext := h.ext.set kb .dead })
    (hp : headOf b = some (id, it, nx, more, rest) := by rfl) (hnx : nx < nt := by decide) (hmo : more < nt := by decide) : Do (WLoop P fn nt rd b fr h) Q Id.nx := by
  have hkk : k / 2 ≠ kb := by
    intro hc
    unfold mapOf at hk
    rw [hc, g] at hk
    simp only [cond_eq_ite] at hk
    split at hk <;> cases hk
  have hmap : ∀ s, mapOf (atS h kb k es s) k = some es := by
    intro s
    unfold mapOf at hk ⊢
    rw [atS_get, if_neg hkk]
    exact hk
  have h00 : atS h kb k es [] = h := by
    unfold atS
    rw [Tr.set_get _ _ _ g]
  have hss : ∀ s s', { atS h kb k es s with ext := (atS h kb k es s).ext.set kb (.iter k es.length s' es.length) } = atS h kb k es s' := by
    intro s s'
    unfold atS
    simp only
    rw [Tr.set_set _ _ _ _ _ g]
  have hput : ∀ (v : Value) (bb : Bool) (fr : Fr), putNext nt nx more v bb fr = some ((more, .bool bb) :: (nx, v) :: fr) := by
    intro v bb fr
    have h1 : Nat.blt nx nt = true := by rw [Nat.blt, Nat.ble_eq]; exact hnx
    have h2 : Nat.blt more nt = true := by rw [Nat.blt, Nat.ble_eq]; exact hmo
    simp [putNext, fput, h1, h2]
  have rounds : ∀ (l s : List Nat) (fr : Fr), (∀ i ∈ l, i < es.length) → (∃ i ∈ l, bad i) → I fr → ∃ frl s', ∃ N, ∀ n, N ≤ n → mapRounds (evC (E0 P) (callV (E0 P) n) fn nt rd n rest) (fun fr => fr) nt it nx more kb k es l s fr (atS h kb k es s) = some (.ret, frl, atS h kb k es s') := by
    intro l
    induction l with
    | nil =>
      intro s fr _ ⟨i, hi, _⟩ _
      cases hi
    | cons i l ihl =>
      intro s fr hl hbad hi
      have hok : iterOK fr (atS h kb k es s) it kb k es s := ⟨hI fr hi, by rw [atS_get, if_pos rfl], hmap s⟩
      obtain ⟨x, hx⟩ : ∃ x, es[i]? = some x := ⟨_, List.getElem?_eq_getElem (hl i (by simp))⟩
      by_cases hbi : bad i
      · obtain ⟨⟨e1, fr1, h1⟩, ⟨N, hN⟩, rfl, hh, _⟩ := wpC_sound (over i x fr s hbi hx hi)
        simp only at hh hN
        refine ⟨fr1, s ++ [i], N, fun n hn => ?_⟩
        rw [mapRounds, if_pos hok, hx]
        simp only [hput, hss, hN n hn]
        rw [hh]
      · obtain ⟨⟨e1, fr1, h1⟩, ⟨N, hN⟩, hr⟩ := wpC_sound (good i x fr s hbi hx hi)
        cases e1 with
        | exit j => exact hr.elim
        | ret => exact hr.elim
        | normal =>
          obtain ⟨hh, hi1⟩ := hr
          simp only at hh hi1 hN
          subst hh
          obtain ⟨frl, s', M, hM⟩ := ihl (s ++ [i]) fr1 (fun j hj => hl j (by simp [hj])) (by
            obtain ⟨j, hj, hjb⟩ := hbad
            rcases List.mem_cons.1 hj with rfl | hj
            · exact absurd hjb hbi
            · exact ⟨j, hj, hjb⟩) hi1
          refine ⟨frl, s', max N M, fun n hn => ?_⟩
          rw [mapRounds, if_pos hok, hx]
          simp only [hput, hss, hN n (by omega)]
          rw [hM n (by omega)]
  obtain ⟨bi, hbi1, hbi2⟩ := hb
  refine mapLoop_tm (T := fun _ => True) hp (hI fr i0) g hk (e := .ret) (h' := { h with ext := h.ext.set kb .dead }) (fun l hl => ?_) (fun F _ => hQ F)
  obtain ⟨frl, s', N, hN⟩ := rounds l [] fr (fun i hi => by simpa using hl.subset hi) ⟨bi, hl.symm.subset (by simpa using hbi1), hbi2⟩ i0
  rw [h00] at hN
  refine ⟨frl, atS h kb k es s', ⟨N, hN⟩, ⟨k, _, _, _, by rw [atS_get, if_pos rfl]⟩, ?_, trivial⟩
  unfold atS
  simp only
  rw [Tr.set_set _ _ _ _ _ g]
end Go.Id

/-! Contracts: the districts of a plan as a map; lists that rise; plans compared; lists that contain. -/
namespace Go.Id
open Go
theorem mapTd:MapT Proofs.Tryd.prog 45 3 (K64 0):=⟨47,u45,by kernel_rfl,rfl⟩
theorem csM_int {cs:List Nat} : ∀e∈csM 0 cs,∃a,e.1=.int .i64 a:=fun e he=>by obtain⟨i,c,rfl,_⟩:=csM_key he;exact⟨_,rfl⟩
theorem mdist_ok {h:IH} {v:Value} {p:List Nat} (hv:SlOf h 1 v p.length (i64s p)) (hp:OkL 0 [] p) (hl:p.length≤64) :
  WV Proofs.Tryd.prog (.func (.func 12) #[] #[]) [v] h fun r h'=>Ext h h'∧r=.map (some (2*h.n))∧h.n<h'.n∧h'.ext.get h.n=some (.map (csM 0 (csF 0 [] p))):=by
 have H0:Ext h (h.new (.map [])):=(Ext.refl h).new _
 have hv0:=hv.keep H0.keep
 refine enter (nt:=22) (rs:=[.tmp 2]) Proofs.Tryd.func12 rfl rfl rfl (by simp) ?_
 simp -dsimp (maxSteps:=1000000) (disch:=first|omega|(simp only[new_n,put_n];omega)|decide +kernel|(repeat first|rw[new_n]|rw[put_n])) only[wpS,Nat.reduceEqDiff,hv0.len sl44]
 refine loop (fun m fr g => ∃i:Nat,i+m=p.length∧Ext h g∧h.n<g.n∧g.ext.get h.n=some (.map (csM 0 (csF 0 [] (p.take i))))∧fget fr 3=some (.map (some (2*h.n)))∧fget fr 7=some v∧fget fr 8=some (KN p.length)∧fget fr 9=some (KN i)) p.length
  ⟨0,by omega,H0,by simp,by simp only[List.take_zero,csF,csM];simp (disch:=first|omega|(simp only[new_n,put_n];omega)|(repeat first|rw[new_n]|rw[put_n])) only[get_new_same],by simp,by simp,by simp,by simp⟩ ?_
 rintro m fr g ⟨i,him,E,gn,gm,f3,f7,f8,f9⟩
 simp -dsimp (maxSteps:=1000000) (disch:=first|omega|(simp only[new_n,put_n];omega)|decide +kernel|(repeat first|rw[new_n]|rw[put_n])) only[wpS,f8,f9]
 refine bq_intro ?_ ?_<;>intro hc<;>simp only[decide_eq_true_eq,decide_eq_false_iff_not] at hc
 ·have hi:i<p.length:=by omega
  obtain⟨l,hpl⟩ : ∃l,p[i]?=some l:=⟨_,List.getElem?_eq_getElem hi⟩
  obtain⟨h1,h2⟩:=okL_at p 0 [] hp i l hpl
  rw[Nat.zero_add] at h2
  have ld:=hv.ld E.keep (P:=Proofs.Tryd.prog) (t:=3) (c:=i) (by rw[i64s_len];exact hi) ag3
  rw[show(i64s p)[i]?=some (KI (l:Int)) by rw[i64s,List.getElem?_map,hpl];rfl] at ld
  have lk:=lookup_eq1 mapTd (keyT_int u3) gm (k:=KN l) ⟨_,rfl⟩ csM_int
  rw[csM_asc] at lk
  have hu:=mapUpdate_eq mapTd (keyT_int u3) gm (k:=KN l) ⟨_,rfl⟩ csM_int (K64 ((csF 0 [] (p.take i)).getD l 0 ||| 2 ^ i))
  rw[csM_upd h1,←h2] at hu
  have hcl : ∀c∈csF 0 [] (p.take i),c<2 ^ 64:=csF_lt (n:=64) (p.take i) 0 [] (by rw[List.length_take];omega) (fun c hc=>by cases hc)
  have hget:(csF 0 [] (p.take i)).getD l 0<18446744073709551616:=by
   rw[List.getD_eq_getElem?_getD]
   cases hx:(csF 0 [] (p.take i))[l]? with
   | none=>simp
   | some c=>exact hcl c (List.mem_of_getElem? hx)
  have hpw:2 ^ i<18446744073709551616:=Nat.pow_lt_pow_right (n:=64) (by omega) (by omega)
  generalize hd:(csF 0 [] (p.take i)).getD l 0=d at *
  generalize hw:2 ^ i=w at *
  simp -dsimp (maxSteps:=1000000) (disch:=first|omega|(simp only[new_n,put_n];omega)|decide +kernel|(repeat first|rw[new_n]|rw[put_n])) only[wpS,wpT,Nat.reduceEqDiff,f3,f7,f9,hv.idx es44 hi,ld,lk,hw,hu]
  exact⟨m - 1,by omega,i+1,by omega,E.put (by omega) _,by simpa using gn,get_put_same _ _ rfl,by simp[f3],by simp[f7],by simp[f8],by simp⟩
 ·obtain rfl:i=p.length:=by omega
  rw[List.take_length] at gm
  simp -dsimp (maxSteps:=1000000) (disch:=first|omega|(simp only[new_n,put_n];omega)|decide +kernel|(repeat first|rw[new_n]|rw[put_n])) only[wpS,wpT,Nat.reduceEqDiff,f3]
  exact⟨E,gn,gm⟩
end Go.Id

/-! Contracts: a list that contains; a plan's copy; lists that became plans. -/
namespace Go.Id
open Go
theorem index64_ok {h:IH} {v:Value} {l:List Nat} (hv:SlNow h 1 v l.length (l.map fun s=>K64 s)) (ll:l.length≤1000000) (x:Nat) :
  WV Proofs.Tryd.prog (.func (.func 43) #[] #[]) [v,K64 x] h fun r h'=>h'=h ∧ ∃i:Int,r=KI i∧(0≤i↔x∈l):=by
 refine enter (nt:=19) (rs:=[.tmp 4]) Proofs.Tryd.func43 rfl rfl rfl (by simp) ?_
 simp -dsimp (disch:=omega) only[wpS,Nat.reduceEqDiff,Nat.reduceAdd,hv.len sl38]
 refine loop (fun m fr h1=>h1=h ∧ ∃i:Nat,i+m=l.length∧fget fr 0=some v∧fget fr 1=some (K64 x)∧fget fr 6=some v∧fget fr 7=some (KI l.length)∧fget fr 8=some (KI i)∧x∉l.take i) l.length ⟨rfl,0,by simp,by simp,by simp,by simp,by simp,by simp,by simp⟩ ?_
 rintro m fr h1 ⟨rfl,i,him,f0,f1,f6,f7,f8,hz⟩
 simp -dsimp (disch:=omega) only[wpS,f7,f8]
 refine bq_intro ?_ ?_<;>intro hc2<;>simp only[decide_eq_true_eq,decide_eq_false_iff_not] at hc2
 ·have hi:i<l.length:=by omega
  obtain⟨y,hy⟩ : ∃y,l[i]?=some y:=⟨l[i],List.getElem?_eq_getElem hi⟩
  have ld:=hv.ld (P:=Proofs.Tryd.prog) (t:=47) (c:=i) (by simpa using hi) ag47
  rw[List.getElem?_map,hy] at ld
  have ix:=hv.idx (P:=Proofs.Tryd.prog) (t:=38) es38 (k:=.i64) (j:=i) hi
  rw[Nat.mul_one] at ix
  have e1:l.take (i+1)=l.take i ++ [y]:=by rw[List.take_add_one,hy];rfl
  simp -dsimp (disch:=omega) only[wpS,wpT,Nat.reduceEqDiff,f0,f1,f8,ix,ld]
  by_cases hxy:x=y
  ·subst hxy
   simp -dsimp (disch:=omega) only[wpS,wpT,Nat.reduceEqDiff]
   exact⟨_,rfl,by constructor<;>intro _<;>first|exact List.mem_of_getElem? hy|omega⟩
  ·have hxy' : ¬(x:Int)=(y:Int):=by omega
   simp -dsimp (disch:=omega) only[wpS,wpT,Nat.reduceEqDiff,f8]
   exact⟨m - 1,by omega,rfl,i+1,by omega,by simp[f0],by simp[f1],by simp[f6],by simp[f7],by simp,by rw[e1];simp[hz,hxy]⟩
 ·obtain rfl:i=l.length:=by omega
  rw[List.take_length] at hz
  simp -dsimp (disch:=omega) only[wpS,wpT]
  exact⟨-1,rfl,by constructor<;>intro hh<;>first|omega|exact absurd hh hz⟩
theorem contains64_ok {h:IH} {v:Value} {l:List Nat} (hv:SlNow h 1 v l.length (l.map fun s=>K64 s)) (ll:l.length≤1000000) (x:Nat) :
  WV Proofs.Tryd.prog (.func (.func 13) #[] #[]) [v,K64 x] h fun r h'=>h'=h∧r=.bool (decide (x∈l)):=by
 refine enter (nt:=9) (rs:=[.tmp 4]) Proofs.Tryd.func13 rfl rfl rfl (by simp) ?_
 simp -dsimp (disch:=omega) only[wpS,Nat.reduceEqDiff,Nat.reduceAdd]
 refine call (index64_ok hv ll x) ?_
 rintro _ _ ⟨rfl,i,rfl,hi⟩
 by_cases h0:0≤i
 ·rw[decide_eq_true (hi.1 h0)]
  simp -dsimp (disch:=omega) only[wpS,wpT,Nat.reduceEqDiff]
 ·rw[decide_eq_false (fun hh=>h0 (hi.2 hh))]
  simp -dsimp (disch:=omega) only[wpS,wpT,Nat.reduceEqDiff]
theorem cloneP_ok {h:IH} {k:Nat} {p:List Nat} {f:Option Nat} (hg:h.ext.get k=some (.cells (i64s p) 1 f)) (hk:k<h.n) (hp:0<p.length) (hl:p.length≤1000000) :
  WV Proofs.Tryd.prog (.func (.func 14) #[] #[]) [clv p.length k] h fun r h'=>Ext h h' ∧ ∃j,h.n≤j∧j<h'.n∧r=clv p.length j∧h'.ext.get j=some (.cells (i64s p) 1 none):=by
 have hA:AccK (h.new (.cells [] 1 none)) 0 1 (clv p.length k) p.length (i64s p) k none→SlNow (h.new (.cells [] 1 none)) 1 (clv p.length k) p.length (i64s p):=fun a=>a.acc.sl.now
 have hs:SlNow (h.new (.cells [] 1 none)) 1 (clv p.length k) p.length (i64s p) :=
  ⟨by omega,by rw[i64s_len];omega,.inr ⟨2*k,0,_,rfl,.inr ⟨i64s p,by rw[row_even];simp only[IH.cells];rw[get_new_old _ _ (by omega),hg],by rw[List.drop_zero,List.take_of_length_le (by rw[i64s_len];omega)],by rw[i64s_len];omega⟩⟩⟩
 clear hA
 have hk:Ext h (h.new (.cells [] 1 none)):=(Ext.refl h).new _
 have hc:(i64s p).all cellOK=true:=by simp[i64s,cellOK]
 unfold clv at hs ⊢
 refine enter (nt:=8) (rs:=[.tmp 2]) Proofs.Tryd.func14 rfl rfl rfl (by simp) ?_
 simp -dsimp (disch:=omega) only[wpS,wpT,Nat.reduceEqDiff,Nat.reduceMul,bs44,ba44_44,nil_eq_some u44,append_zero ap44 _ hs hp hc (by omega)]
 exact⟨hk.new _,_,by simp,by simp,rfl,get_new_same _ _ rfl⟩
theorem WantAt.plans {h:IH} {bw n:Nat} {kw fw:Option Nat} {qs:List (List Nat)} {js:List Nat} (a:WantAt h bw n kw fw qs js) (hn:0<n) : ∃wv,h.ext.get bw=some (.cells [wv] 0 none)∧PlansAt h wv qs:=by
 obtain⟨wv,a1,a2,a3,a4⟩:=a
 refine⟨wv,a1,?_⟩
 rcases a4 with⟨_,_,rfl,rfl⟩|⟨k,b1,b2⟩
 ·exact⟨[],SlOf.nil _ (by omega),fun i p hp=>by simp at hp⟩
 ·refine⟨_,b2.acc.sl,fun i p hp=>?_⟩
  obtain⟨hi,_⟩:=List.getElem?_eq_some_iff.1 hp
  obtain⟨j,hj⟩ : ∃j,js[i]?=some j:=⟨_,List.getElem?_eq_getElem (by omega)⟩
  obtain⟨c1,c2,c3⟩:=a3 i p j hp hj
  refine⟨clv n j,by rw[List.getElem?_map,hj];rfl,?_⟩
  have hA:AccK h 0 1 (clv n j) n (i64s p) j none:=⟨by omega,by rw[i64s_len];omega,rfl,hn,by omega,c2,c3,trivial⟩
  rw[c1];exact hA.acc.sl
end Go.Id

/-! Contracts: EnumerateAll's search. -/
namespace Go.Id
open Go
theorem okL_snoc : ∀(p:List Nat) (node:Nat) (cs:List Nat) (c:Nat),OkL node cs p→c≤(csF node cs p).length→OkL node cs (p ++ [c])
 | [],_,_,_,_,h=>⟨h,trivial⟩
 | _ :: p,node,cs,c,h1,h2=>⟨h1.1,okL_snoc p (node+1) _ c h1.2 h2⟩
theorem csF_snoc (p:List Nat) (c:Nat):csF 0 [] (p ++ [c])=lab (csF 0 [] p) p.length c:=by rw[csF_app,Nat.zero_add];rfl
theorem flat_le {α:Type} (f:Nat→List α) {a b:Nat} (h:a≤b):((List.range a).flatMap f).length≤((List.range b).flatMap f).length:=by
 obtain⟨d,rfl⟩:=Nat.exists_eq_add_of_le h
 rw[List.range_add,List.flatMap_append,List.length_append];omega
theorem clv_sl {h:IH} {n k:Nat} {cs:List Value} {f:Option Nat} (hg:h.ext.get k=some (.cells cs 1 f)) (hk:k<h.n) (hn:0<n) (hl:cs.length=n):SlOf h 1 (clv n k) n cs :=
 ⟨by omega,by omega,.inr ⟨2*k,0,2*n,rfl,.inr ⟨by omega,by omega,cs,.inr ⟨by omega,by omega,f,by rw[show 2*k / 2=k by omega];exact hg⟩,by rw[row_even];simp only[IH.cells,hg],by rw[List.drop_zero,List.take_of_length_le (by omega)],by omega⟩⟩⟩
structure GQ where
 n:Nat
 k:Nat
 E:List (Nat×Nat)
 ws:List Int
 lo:Int
 hi:Int
 v:Value
 w:Value
 sv:Value
 bg:Nat
 bs:Nat
 bb:Nat
 bw:Nat
 bf:Nat
 R:IH
noncomputable def GQ.F (q:GQ):Nat→Bool:=fitsB q.E q.ws q.lo q.hi
noncomputable def GQ.D (q:GQ):List Nat:=distL q.F (2 ^ q.n)
def growV (q:GQ):Value:=.func (.func 11) #[] #[ptr (2*q.bg) 0,ptr (2*q.bs) 0,ptr (2*q.bb) 0,ptr (2*q.bw) 0,ptr (2*q.bf) 0]
structure GR (q:GQ):Prop where
 n0:0<q.n
 n12:q.n≤12
 k1:1≤q.k
 k8:q.k≤8
 ig:q.R.ext.get q.bg=some (.cells [KI q.n,q.v] 0 none)
 is:q.R.ext.get q.bs=some (.cells [q.sv] 0 none)
 ib:q.R.ext.get q.bb=some (.cells [q.w,KI q.lo,KI q.hi,KI q.k] 0 none)
 iw : ∃x,q.R.ext.get q.bw=some (.cells [x] 0 none)
 if_:q.R.ext.get q.bf=some (.cells [growV q] 0 none)
 lg:q.bg<q.R.n∧q.bg≠q.bw
 ls:q.bs<q.R.n∧q.bs≠q.bw
 lb:q.bb<q.R.n∧q.bb≠q.bw
 lf:q.bf<q.R.n∧q.bf≠q.bw
 sl:SlOf q.R 1 q.sv q.D.length (q.D.map fun s=>K64 s)
theorem GSt.keep {R h:IH} {n1 bw n:Nat} {v:Value} {p:List Nat} {k fam:Option Nat} {below:List Nat} {kw fw:Option Nat} {qs:List (List Nat)} {js:List Nat} (s:GSt R h n1 bw n v p k fam below kw fw qs js) (hw : ∃x,R.ext.get bw=some (.cells [x] 0 none)):Keep R h :=
 ⟨s.hn,s.base,fun j c e f hj hg he=>by
  by_cases hb:j=bw
  ·subst hb
   obtain⟨x,hx⟩:=hw
   rw[hx] at hg;cases hg;exact absurd rfl he
  ·exact⟨f,by rw[s.root j hj hb];exact hg⟩⟩
noncomputable def GQ.A (q:GQ) (m:Nat) (p:List Nat):List (List Nat):=(allP q.F q.k m p.length (csF 0 [] p)).map (p ++ ·)
noncomputable def GQ.B (q:GQ) (m:Nat) (p:List Nat) (c:Nat):List (List Nat):=(List.range c).flatMap fun l=>q.A m (p ++ [l])
theorem GQ.A_succ (q:GQ) (m:Nat) (p:List Nat):q.A (m+1) p=q.B m p (min ((csF 0 [] p).length+1) q.k):=by
 unfold GQ.A GQ.B allP
 rw[List.map_flatMap]
 congr 1
 funext l
 rw[List.map_map]
 unfold GQ.A
 rw[csF_snoc,List.length_append]
 apply List.map_congr_left
 intro x _
 simp
theorem GQ.B_succ (q:GQ) (m:Nat) (p:List Nat) (c:Nat):q.B m p (c+1)=q.B m p c ++ q.A m (p ++ [c]):=by
 unfold GQ.B
 rw[List.range_succ,List.flatMap_append];simp
theorem GQ.A_zero (q:GQ) (p:List Nat):q.A 0 p=if (csF 0 [] p).length=q.k ∧ ∀c∈csF 0 [] p,q.F c=true then [p] else []:=by
 unfold GQ.A allP
 rw[after_done]
 by_cases h:(csF 0 [] p).length=q.k ∧ ∀c∈csF 0 [] p,q.F c=true
 ·rw[if_pos h,if_pos h];simp
 ·rw[if_neg h,if_neg h];simp
structure GPost (q:GQ) (h h':IH) (v:Value) (p:List Nat) (k fam:Option Nat) (below:List Nat) (kw:Option Nat) (qs:List (List Nat)) (js:List Nat):Prop where
 ex : ∃fam' kw' fw' js1,GSt q.R h' h.n q.bw q.n v p k fam' below kw' fw' qs (js ++ js1)∧(∀f,fam=some f→fam'=some f)∧(kw'=kw ∨ ∃j,kw'=some j∧h.n≤j) ∧ ∀j∈js1,h.n≤j
 fra:Fra h h' q.bw k kw
set_option maxHeartbeats 8000000 in
theorem leaf_ok {q:GQ} (gr:GR q) {h:IH} {v:Value} {p:List Nat} {k fam:Option Nat} {below:List Nat} {kw fw:Option Nat} {qs:List (List Nat)} {js:List Nat} (s:GSt q.R h h.n q.bw q.n v p k fam below kw fw qs js) (hp:p.length=q.n) (ok:OkL 0 [] p) (hq:qs.length+(q.A 0 p).length≤1000000) :
  WV Proofs.Tryd.prog (growV q) [v,KN (csF 0 [] p).length] h fun _ h'=>GPost q h h' v p k fam below kw (qs ++ q.A 0 p) js:=by
 have rg:h.row (2*q.bg)=some [KI q.n,q.v]:=by rw[row_even];simp only[IH.cells,s.root _ gr.lg.1 gr.lg.2,gr.ig]
 have rs:h.row (2*q.bs)=some [q.sv]:=by rw[row_even];simp only[IH.cells,s.root _ gr.ls.1 gr.ls.2,gr.is]
 have rb:h.row (2*q.bb)=some [q.w,KI q.lo,KI q.hi,KI q.k]:=by rw[row_even];simp only[IH.cells,s.root _ gr.lb.1 gr.lb.2,gr.ib]
 have n0:=gr.n0
 have n12:=gr.n12
 have sS:=gr.sl.keep (s.keep gr.iw)
 obtain⟨k0,rfl,rfl,a3,a4,a5,a6,a7⟩ : ∃k0,k=some k0∧v=clv p.length k0∧0<p.length∧Under h h.n k0 (i64s p) fam below:=by
  rcases s.pa with⟨_,_,h3,_⟩|h1
  ·rw[h3] at hp;simp at hp;omega
  ·exact h1
 have sv:=clv_sl a6 a4 a3 (i64s_len p)
 unfold growV
 generalize hv:clv p.length k0=v at *
 refine enter (nt:=58) (rs:=[]) Proofs.Tryd.func11 rfl rfl rfl (by simp) ?_
 simp -dsimp (disch:=omega) only[wpS,wpT,Nat.reduceEqDiff,Nat.reduceAdd,fa32_0,ld3,sv.len sl44,rg,hp]
 refine call (mdist_ok (by rw[←hp] at *;exact sv) ok (by omega)) ?_
 rintro _ h1 ⟨E1,rfl,n1,gm⟩
 obtain⟨cs,hcs⟩ : ∃cs,cs=csF 0 [] p:=⟨_,rfl⟩
 rw[←hcs] at gm ⊢
 obtain⟨es,hes⟩ : ∃es,es=csM 0 cs:=⟨_,rfl⟩
 rw[←hes] at gm
 have hu:=u45
 have hk1:=mapOf_ev gm
 have hrv:=rangeV_eq (P:=Proofs.Tryd.prog) (t:=45) hu hk1
 simp -dsimp (disch:=omega) only[wpS,Nat.reduceEqDiff,d_range,hrv]
 obtain⟨h2,hh2⟩ : ∃H,H=h1.new (.iter (2*h.n) es.length [] es.length):=⟨_,rfl⟩
 have E2:Ext h1 h2:=by rw[hh2];exact(Ext.refl h1).new _
 have gi:h2.ext.get h1.n=some (.iter (2*h.n) es.length [] es.length):=by rw[hh2];simp (disch:=first|omega|(simp only[new_n,put_n];omega)|(repeat first|rw[new_n]|rw[put_n])) only[get_new_same]
 have n2:h2.n=h1.n+1:=by rw[hh2];rfl
 have gm2:h2.ext.get h.n=some (.map es):=(E2.get _ n1).trans gm
 rw[←hh2]
 clear hh2
 have hk2:=mapOf_ev gm2
 have hlt : ∀c∈cs,c<2 ^ q.n:=by rw[hcs];exact csF_lt (n:=q.n) p 0 [] (by omega) (fun c hc=>by cases hc)
 have hcells : ∀(j:Nat) (y:Value×Value),es[j]?=some y → ∃c,y=(KN j,K64 c)∧cs[j]?=some c:=by
  intro j y hy
  rw[hes,csM_at] at hy
  obtain⟨c,hc1,hc2⟩:=Option.map_eq_some_iff.1 hy
  rw[Nat.zero_add] at hc2
  exact⟨c,hc2.symm,hc1⟩
 have hD : ∀c∈cs,(c∈q.D↔q.F c=true):=fun c hc=>by unfold GQ.D;rw[distL,List.mem_filter,List.mem_range];exact⟨fun h=>h.2,fun h=>⟨hlt c hc,h⟩⟩
 have dlen:q.D.length≤1000000:=by
  have h3:=distL_len q.F (2 ^ q.n)
  have h4:2 ^ q.n≤2 ^ 12:=Nat.pow_le_pow_right (by omega) n12
  unfold GQ.D;omega
 have E12:=E1.trans E2
 have hI : ∀(j:Nat) (y:Value×Value) (fr:Fr) (sq:List Nat),es[j]?=some y→(fget fr 19=some (ptr (2*h1.n) 0)∧fget fr 1=some (KN cs.length)∧fget fr 0=some v∧fget fr 3=some (ptr (2*q.bs) 0)∧fget fr 4=some (ptr (2*q.bb) 0)∧fget fr 5=some (ptr (2*q.bw) 0)) →
   ∃c,y=(KN j,K64 c)∧cs[j]?=some c∧entryV (atS h2 h1.n (2*h.n) es (sq ++ [j])) (ptr (2*h1.n) 0)=some (.tuple #[KN j,K64 c])∧(atS h2 h1.n (2*h.n) es (sq ++ [j])).row (2*q.bs)=some [q.sv]∧SlNow (atS h2 h1.n (2*h.n) es (sq ++ [j])) 1 q.sv q.D.length (q.D.map fun s=>K64 s):=by
  intro j y fr sq hy _
  obtain⟨c,rfl,hc⟩:=hcells j y hy
  have gA:(atS h2 h1.n (2*h.n) es (sq ++ [j])).ext.get h1.n=some (.iter (2*h.n) es.length (sq ++ [j]) es.length):=by rw[atS_get,if_pos rfl]
  have hkA:mapOf (atS h2 h1.n (2*h.n) es (sq ++ [j])) (2*h.n)=some es:=mapOf_ev (by rw[atS_get,if_neg (by omega)];exact gm2)
  have hbs:=gr.ls.1
  have hRn:=s.hn
  have en:=E1.n
  refine⟨c,rfl,hc,entryV_eq gA hkA hy,?_,((sS.keep E12.keep).keep (keep_it gi _)).now⟩
  rw[row_even]
  simp only[IH.cells,atS_get]
  rw[if_neg (by omega),E12.get _ (by omega),s.root _ gr.ls.1 gr.ls.2,gr.is]
 by_cases hall : ∀c∈cs,q.F c=true
 ·refine mapLoopA (fun fr=>fget fr 19=some (ptr (2*h1.n) 0)∧fget fr 1=some (KN cs.length)∧fget fr 0=some v∧fget fr 3=some (ptr (2*q.bs) 0)∧fget fr 4=some (ptr (2*q.bb) 0)∧fget fr 5=some (ptr (2*q.bw) 0)) (.exit 0) gi hk2 ⟨by simp,by simp,by simp,by simp,by simp,by simp⟩ (fun fr h=>h.1) ?_ ?_ ?_
  ·intro j y fr sq hy hi
   obtain⟨c,rfl,hc,hen,rsA,sA⟩:=hI j y fr sq hy hi
   obtain⟨f19,f1,f0,f3,f4,f5⟩:=hi
   simp -dsimp (disch:=omega) only[wpS,Nat.reduceEqDiff,ld38,d_entry,f19,hen,f3,rsA]
   refine call (contains64_ok sA dlen c) ?_
   rintro _ h3 ⟨rfl,rfl⟩
   rw[decide_eq_true ((hD c (List.mem_of_getElem? hc)).2 (hall c (List.mem_of_getElem? hc)))]
   simp -dsimp (disch:=omega) only[wpS,wpT,Nat.reduceEqDiff,roundK_normal]
   exact⟨by simp[f19],by simp[f1],by simp[f0],by simp[f3],by simp[f4],by simp[f5]⟩
  ·intro fr sq ⟨f19,f1,f0,f3,f4,f5⟩
   simp -dsimp (disch:=omega) only[wpS,wpT,Nat.reduceEqDiff,overK_eq]
   exact⟨by simp[f19],by simp[f1],by simp[f0],by simp[f3],by simp[f4],by simp[f5]⟩
  ·intro G hG
   have g0:=hG 0 _ (by omega) fun fr h=>h.2.2.1
   have g1:=hG 1 _ (by omega) fun fr h=>h.2.1
   have g4:=hG 4 _ (by omega) fun fr h=>h.2.2.2.2.1
   have g5:=hG 5 _ (by omega) fun fr h=>h.2.2.2.2.2
   have E3:Ext h (h2.put h1.n .dead):=E12.put E1.n _
   show blockK 0 _ (.exit 0) G (h2.put h1.n .dead)
   rw[blockK_same,seqK_normal]
   generalize h2.put h1.n .dead=h3 at *
   have rb3:h3.row (2*q.bb)=some [q.w,KI q.lo,KI q.hi,KI q.k]:=by rw[E3.row (.inr (by have:=s.hn;have:=gr.lb.1;omega))];exact rb
   by_cases hk:cs.length=q.k
   ·simp -dsimp (disch:=omega) only[wpS,wpT,Nat.reduceEqDiff,ld3,fa35_3,g1,g4,rb3,hk]
    have hA0:q.A 0 p = [p]:=by rw[q.A_zero,←hcs,if_pos ⟨hk,hall⟩]
    rw[hA0] at hq ⊢
    have s3:=s.ext E3
    have e3n:=E3.n
    obtain⟨wv,hwv,_⟩:=s3.wa
    have rw3:h3.row (2*q.bw)=some [wv]:=by rw[row_even];simp only[IH.cells,hwv]
    refine drawn [(0,[4])] (by kernel_rfl) (by kernel_rfl) rfl ?_
    simp -dsimp (disch:=omega) only[wpS,Nat.reduceEqDiff,ld42,g0,g5,rw3]
    have hg0:h3.ext.get k0=some (.cells (i64s p) 1 fam):=by rw[E3.get _ a4];exact a6
    rw[←hv]
    refine call (cloneP_ok hg0 (by omega) a3 (by omega)) ?_
    rintro _ h4 ⟨E4,jc,hj1,hj2,rfl,hj3⟩
    have s4:=s3.ext E4
    have e4n:=E4.n
    have sRn:=s.hn
    obtain⟨wv',wv2,g,kw',fw',b1,b2,b3,⟨cs2,b4⟩,b5,b6,b7⟩:=s4.emit (P:=Proofs.Tryd.prog) (t:=42) ap42 hj2 (by omega) hp n0 hj3 (fun he=>by cases he;omega) (by simp at hq;omega)
    have hwv4:h4.ext.get q.bw=some (.cells [wv] 0 none):=by rw[E4.get _ (by have:=s.hb;omega)];exact hwv
    rw[hwv4] at b1
    cases b1
    have rw4 : ∀o,(h4.new o).row (2*q.bw)=some [wv]:=fun o=>by rw[row_even];simp only[IH.cells];rw[get_new_old _ _ (by have:=s.hb;omega),hwv4]
    rw[←hp] at b2 
    unfold clv at b2 ⊢
    simp -dsimp (disch:=omega) only[wpS,wpT,Nat.reduceEqDiff,Nat.reduceLeDiff,Nat.reduceAdd,bs42,st42,ba42_42,g5,b2,b3,b4.cells,b4.cok]
    refine⟨wpSteady_one rfl rfl rfl rfl (steady_load (av:=ptr (2*q.bw) 0) (v:=wv) ?_ ?_ ?_),?_⟩
    ·simp[g5]
    ·simp -dsimp (disch:=omega) only[wpS,ld42,rw3]
    ·simp -dsimp (disch:=omega) only[wpS,ld42,rw4]
    simp -dsimp (disch:=omega) only[wpS,wpT,Nat.reduceAdd]
    rw[←hv] at b5
    unfold clv at b5
    refine⟨⟨fam,kw',fw',[jc],b5,fun _ h=>h,.inr ?_,fun j hj=>?_⟩,⟨?_,fun j hj h1 h2 h3=>?_⟩⟩
    ·obtain⟨j,h1,h2⟩:=b6
     exact⟨j,h1,by omega⟩
    ·rw[List.mem_singleton] at hj;omega
    ·have:=b7.n;omega
    ·rw[b7.get j (by omega) h1 h2 h3,E4.get j (by omega),E3.get j hj]
   ·simp -dsimp (disch:=omega) only[wpS,wpT,Nat.reduceEqDiff,ld3,fa35_3,g1,g4,rb3]
    have hA0:q.A 0 p = []:=by rw[q.A_zero,←hcs,if_neg (fun hh=>hk hh.1)]
    rw[hA0,List.append_nil]
    exact⟨⟨fam,kw,fw,[],by rw[List.append_nil];exact s.ext E3,fun _ h=>h,.inl rfl,fun j hj=>by cases hj⟩,⟨E3.n,fun j hj _ _ _=>E3.get j hj⟩⟩
 ·refine mapLoopR (fun fr=>fget fr 19=some (ptr (2*h1.n) 0)∧fget fr 1=some (KN cs.length)∧fget fr 0=some v∧fget fr 3=some (ptr (2*q.bs) 0)∧fget fr 4=some (ptr (2*q.bb) 0)∧fget fr 5=some (ptr (2*q.bw) 0)) (fun i => ∃c,cs[i]?=some c ∧ ¬q.F c=true) gi hk2 ⟨by simp,by simp,by simp,by simp,by simp,by simp⟩ (fun fr h=>h.1) ?_ ?_ ?_ ?_
  ·obtain⟨c,hc⟩:=Classical.not_forall.1 hall
   obtain⟨hc1,hc2⟩:=Classical.not_imp.1 hc
   obtain⟨i,hi,rfl⟩:=List.mem_iff_getElem.1 hc1
   exact⟨i,by rw[hes,csM_len];exact hi,_,List.getElem?_eq_getElem hi,hc2⟩
  ·intro j y fr sq hb hy hi
   obtain⟨c,rfl,hc,hen,rsA,sA⟩:=hI j y fr sq hy hi
   obtain⟨f19,f1,f0,f3,f4,f5⟩:=hi
   have hF:q.F c=true:=Classical.byContradiction fun hh=>hb ⟨c,hc,hh⟩
   simp -dsimp (disch:=omega) only[wpS,Nat.reduceEqDiff,ld38,d_entry,f19,hen,f3,rsA]
   refine call (contains64_ok sA dlen c) ?_
   rintro _ h3 ⟨rfl,rfl⟩
   rw[decide_eq_true ((hD c (List.mem_of_getElem? hc)).2 hF)]
   simp -dsimp (disch:=omega) only[wpS,wpT,Nat.reduceEqDiff,roundK_normal]
   exact⟨by simp[f19],by simp[f1],by simp[f0],by simp[f3],by simp[f4],by simp[f5]⟩
  ·intro j y fr sq hb hy hi
   obtain⟨c,rfl,hc,hen,rsA,sA⟩:=hI j y fr sq hy hi
   obtain⟨f19,f1,f0,f3,f4,f5⟩:=hi
   have hF : ¬q.F c=true:=by obtain⟨c',h1,h2⟩:=hb;rw[hc] at h1;cases h1;exact h2
   simp -dsimp (disch:=omega) only[wpS,Nat.reduceEqDiff,ld38,d_entry,f19,hen,f3,rsA]
   refine call (contains64_ok sA dlen c) ?_
   rintro _ h3 ⟨rfl,rfl⟩
   rw[decide_eq_false (fun h=>hF ((hD c (List.mem_of_getElem? hc)).1 h))]
   simp -dsimp (disch:=omega) only[wpS,wpT,Nat.reduceEqDiff,overK_eq]
  ·intro G
   have E3:Ext h (h2.put h1.n .dead):=E12.put E1.n _
   show blockK 0 _ .ret G (h2.put h1.n .dead)
   have hA0:q.A 0 p = []:=by rw[q.A_zero,←hcs,if_neg (fun hh=>hall hh.2)]
   rw[hA0,List.append_nil]
   have fin:GPost q h (h2.put h1.n .dead) v p (some k0) fam below kw qs js:=⟨⟨fam,kw,fw,[],by rw[List.append_nil];exact s.ext E3,fun _ h=>h,.inl rfl,fun j hj=>by cases hj⟩,⟨E3.n,fun j hj _ _ _=>E3.get j hj⟩⟩
   generalize h2.put h1.n .dead=h3 at *
   simp -dsimp (disch:=omega) only[wpS]
   exact fin
theorem GSt.rows {q:GQ} (gr:GR q) {h:IH} {n1:Nat} {v:Value} {p:List Nat} {k fam:Option Nat} {below:List Nat} {kw fw:Option Nat} {qs:List (List Nat)} {js:List Nat} (s:GSt q.R h n1 q.bw q.n v p k fam below kw fw qs js) :
  h.row (2*q.bg)=some [KI q.n,q.v]∧h.row (2*q.bb)=some [q.w,KI q.lo,KI q.hi,KI q.k]∧h.row (2*q.bf)=some [growV q]:=by
 refine⟨?_,?_,?_⟩
 ·rw[row_even];simp only[IH.cells,s.root _ gr.lg.1 gr.lg.2,gr.ig]
 ·rw[row_even];simp only[IH.cells,s.root _ gr.lb.1 gr.lb.2,gr.ib]
 ·rw[row_even];simp only[IH.cells,s.root _ gr.lf.1 gr.lf.2,gr.if_]
theorem PAt.len {h:IH} {n1:Nat} {v:Value} {p:List Nat} {k fam:Option Nat} {below:List Nat} (a:PAt h n1 v p k fam below) {P:Program} {t:TypeId} (hT:isSliceT P (some t)=true) (h':IH):lenB P h' t v=some (.int .i64 p.length):=by
 rcases a with⟨_,rfl,rfl,_⟩|⟨k0,_,rfl,_⟩
 ·exact lenB_slice hT _ _ _ _
 ·exact lenB_slice hT _ _ _ _
set_option maxHeartbeats 8000000 in
theorem grow_ok {q:GQ} (gr:GR q) : ∀(m:Nat) {h:IH} {v:Value} {p:List Nat} {k fam:Option Nat} {below:List Nat} {kw fw:Option Nat} {qs:List (List Nat)} {js:List Nat},p.length+m=q.n→GSt q.R h h.n q.bw q.n v p k fam below kw fw qs js→OkL 0 [] p→qs.length+(q.A m p).length≤1000000 →
  WV Proofs.Tryd.prog (growV q) [v,KN (csF 0 [] p).length] h fun _ h'=>GPost q h h' v p k fam below kw (qs ++ q.A m p) js:=by
 intro m
 induction m with
 | zero=>intro h v p k fam below kw fw qs js hp s ok hq;exact leaf_ok gr s hp ok hq
 | succ m ih =>
  intro h v p k fam below kw fw qs js hp s ok hq
  obtain⟨rg,rb,rf⟩:=s.rows gr
  have n12:=gr.n12
  have k8:=gr.k8
  have hlen:=s.pa.len (P:=Proofs.Tryd.prog) (t:=44) sl44 h
  obtain⟨u,hu⟩ : ∃u,u=(csF 0 [] p).length:=⟨_,rfl⟩
  have hul:u≤12:=by have:=csF_len p 0 [];simp only[List.length_nil] at this;omega
  rw[q.A_succ,←hu] at hq ⊢
  obtain⟨L,hL⟩ : ∃L,L=min (u+1) q.k:=⟨_,rfl⟩
  rw[←hL] at hq ⊢
  have hne : ¬(p.length:Int)=(q.n:Int):=by omega
  unfold growV
  refine enter (nt:=58) (rs:=[]) Proofs.Tryd.func11 rfl rfl rfl (by simp) ?_
  simp -dsimp (disch:=omega) only[wpS,wpT,Nat.reduceEqDiff,Nat.reduceAdd,fa32_0,ld3,hlen,rg]
  refine loop (fun d fr g => ∃(c:Nat) (kw' fw':Option Nat) (js1:List Nat) (fam':Option Nat),c+d=L∧GSt q.R g h.n q.bw q.n v p k fam' below kw' fw' (qs ++ q.B m p c) (js ++ js1)∧(∀f,fam=some f→fam'=some f)∧(kw'=kw ∨ ∃j,kw'=some j∧h.n≤j)∧(∀j∈js1,h.n≤j)∧Fra h g q.bw k kw ∧
   fget fr 0=some v∧fget fr 1=some (KN u)∧fget fr 4=some (ptr (2*q.bb) 0)∧fget fr 6=some (ptr (2*q.bf) 0)∧fget fr 11=some (KN c)) L
   ⟨0,kw,fw,[],fam,by omega,by simpa [GQ.B] using s,fun _ h=>h,.inl rfl,(fun j hj=>by cases hj),Fra.refl _ _ _ _,by simp,by simp,by simp,by simp,by simp⟩ ?_
  rintro d fr g ⟨c,kw',fw',js1,fam',hcd,sg,hfam,hkw,hjs,F,f0,f1,f4,f6,f11⟩
  obtain⟨rgg,rbg,rfg⟩:=sg.rows gr
  by_cases hc:c<L
  ·have hc1:(c:Int)≤(u:Int):=by omega
   have hc2:(c:Int)<(q.k:Int):=by omega
   simp -dsimp (disch:=omega) only[wpS,wpT,Nat.reduceEqDiff,ld3,fa35_3,f1,f4,f11,rbg]
   obtain⟨v',g1,k',fam1,below1,p1,p2,p3,p4,p5,p6⟩:=sg.push (P:=Proofs.Tryd.prog) (t:=44) ap44 c (by omega)
   have p1':append Proofs.Tryd.prog (g.new (.cells [.int .i64 (c:Int)] 1 none)) 44 v (.slice (some ⟨2*g.n,0,none⟩) 1 3)=some (v',g1):=p1
   obtain⟨rg1,rb1,rf1⟩:=p4.rows gr
   have rfN : ∀o,(g.new o).row (2*q.bf)=some [growV q]:=fun o=>by
    rw[row_even] at rfg ⊢
    simp only[IH.cells] at rfg ⊢
    rw[get_new_old _ _ (by have:=gr.lf.1;have:=sg.hn;omega)];exact rfg
   have hsn:csF 0 [] (p ++ [c])=lab (csF 0 [] p) p.length c:=csF_snoc p c
   have hul':(csF 0 [] (p ++ [c])).length=if c=u then u+1 else u:=by rw[hsn,lab_len,←hu]
   have hmx:(if (u:Int)<(c:Int)+1 then (c:Int)+1 else (u:Int))=((csF 0 [] (p ++ [c])).length:Int):=by
    rw[hul'];split<;>split<;>omega
   refine drawn [(0,[4,9])] (by kernel_rfl) (by kernel_rfl) rfl ?_
   simp -dsimp (disch:=omega) only[wpS,wpT,Nat.reduceEqDiff,Nat.reduceLeDiff,Nat.reduceAdd,ld43,bs44,ba44_44,f0,f1,f6,f11,rfg,p1',max_int,hmx]
   have hBs:q.B m p (c+1)=q.B m p c ++ q.A m (p ++ [c]):=q.B_succ m p c
   have hBl:(q.B m p (c+1)).length≤(q.B m p L).length:=flat_le _ (by omega)
   rw[hBs,List.length_append] at hBl
   have hok:OkL 0 [] (p ++ [c]):=okL_snoc p 0 [] c ok (by omega)
   refine call (ih (by simp;omega) p4 hok (by simp;omega)) ?_
   rintro _ g2 ⟨⟨fam2,kw2,fw2,js2,s2,hfam2,hkw2,hjs2⟩,F2⟩
   have hgn:g.n≤g1.n:=by omega
   have hFn:=F.n
   have hF2n:=F2.n
   rw[List.append_assoc,←hBs] at s2
   obtain⟨fam3,s3,hfam3⟩:=sg.pop p2 p3 hgn p6 s2 hfam2 F2 (by
    rcases hkw2 with h1|⟨j,h1,h2⟩
    ·exact .inl h1
    ·exact .inr ⟨j,h1,by omega⟩) (fun j hj=>by have:=hjs2 j hj;omega)
   rw[List.append_assoc] at s3
   simp -dsimp (disch:=omega) only[wpS]
   refine⟨wpSteady_two (wpSteady_one rfl rfl rfl rfl (steady_load (av:=ptr (2*q.bf) 0) (v:=growV q) ?_ ?_ ?_)) (wpSteady_one rfl rfl rfl rfl (steady_load (av:=ptr (2*q.bf) 0) (v:=growV q) ?_ ?_ ?_)),?_⟩
   ·simp[f6]
   ·simp -dsimp (disch:=omega) only[wpS,ld43,rfg]
   ·simp -dsimp (disch:=omega) only[wpS,ld43,rfN]
   ·simp[f6]
   ·simp -dsimp (disch:=omega) only[wpS,ld43,rfg]
   ·simp -dsimp (disch:=omega) only[wpS,ld43,rf1]
   simp -dsimp (disch:=omega) only[wpS,wpT,Nat.reduceEqDiff,Nat.reduceAdd,f11]
   refine⟨d - 1,by omega,c+1,kw2,fw2,js1 ++ js2,fam3,by omega,s3,fun f hf=>hfam3 f (hfam f hf),?_,fun j hj=>?_,⟨by omega,fun j hj h1 h2 h3=>?_⟩,by simp[f0],by simp[f1],by simp[f4],by simp[f6],by simp⟩
   ·rcases hkw2 with h1|⟨j,h1,h2⟩
    ·rcases hkw with h3|⟨j,h3,h4⟩
     ·exact .inl (h1.trans h3)
     ·exact .inr ⟨j,h1.trans h3,h4⟩
    ·exact .inr ⟨j,h1,by omega⟩
   ·rcases List.mem_append.1 hj with h1|h1
    ·exact hjs j h1
    ·have:=hjs2 j h1;omega
   ·rw[F2.get j (by omega) h1 (fun he=>by cases he;omega) (fun he=>?_),p5 j hj h2,F.get j hj h1 h2 h3]
    rcases hkw with h4|⟨i,h4,h5⟩
    ·exact h3 (h4.symm.trans he)
    ·rw[h4] at he;cases he;omega
  ·obtain rfl:c=L:=by omega
   have fin:GPost q h g v p k fam below kw (qs ++ q.B m p c) js:=⟨⟨fam',kw',fw',js1,sg,hfam,hkw,hjs⟩,F⟩
   by_cases hc1:(c:Int)≤(u:Int)
   ·have hc2 : ¬(c:Int)<(q.k:Int):=by omega
    simp -dsimp (disch:=omega) only[wpS,wpT,Nat.reduceEqDiff,ld3,fa35_3,f1,f4,f11,rbg]
    exact fin
   ·simp -dsimp (disch:=omega) only[wpS,wpT,Nat.reduceEqDiff,f1,f11]
    exact fin
end Go.Id
