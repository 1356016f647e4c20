/-
  Contracts: graphs and bounds. Connected sets; what Check says of a graph with bounds. Weakest preconditions over the ideal machine, twelfth part: a store into a list that grows. Contracts: the drafted graph. Contracts: small functions.
-/
import Derived.Test.YtcmfdbjgimekbaaDoorEnumeratePartsAk
import Derived.Test.YtcmfdbjgimekbaaDoorEnumeratePartsAh
set_option linter.unusedVariables false
set_option linter.unusedSimpArgs false
set_option linter.defProp false
set_option linter.deprecated false
/-! Contracts: graphs and bounds. Connected sets; what Check says of a graph with bounds. -/
namespace Go.Id
open Go

theorem edges_ok {n : Nat} : ∀ {E : List (Nat × Nat)} {p : Int × Int}, edgesB n p (castE E) = true → EdgesOK n E
  | [], _, _ => fun e he => by cases he
  | x :: E, p, h => by
    have e1 : castE (x :: E) = ((x.1 : Int), (x.2 : Int)) :: castE E := rfl
    rw [e1, edgesB] at h
    simp only [Bool.and_eq_true, decide_eq_true_eq] at h
    intro e he
    rcases List.mem_cons.1 he with rfl | he
    · have := h.1.1; omega
    · exact edges_ok h.2 e he
theorem graph_ok {n : Int} {E : List (Nat × Nat)} (h : graphErr n (castE E) = 0) : ∃ m : Nat, n = m ∧ 0 < m ∧ m ≤ 64 ∧ EdgesOK m E ∧ E.length ≤ 200 := by
  unfold graphErr at h
  split at h
  · rename_i h1
    obtain ⟨h1, h2, h3, h4⟩ := h1
    obtain ⟨m, rfl⟩ := Int.eq_ofNat_of_zero_le (show 0 ≤ n by omega)
    exact ⟨m, rfl, by omega, by omega, edges_ok h4, by simpa [castE] using h3⟩
  · cases h
theorem cast_in {n : Nat} {E : List (Nat × Nat)} (hn : n ≤ 64) (h : EdgesOK n E) : ∀ e ∈ castE E, In64 e.1 ∧ In64 e.2 := by
  intro e he
  simp only [castE, List.mem_map] at he
  obtain ⟨x, hx, rfl⟩ := he
  have := h x hx
  exact ⟨⟨by simp <;> omega, by simp <;> omega⟩, ⟨by simp <;> omega, by simp <;> omega⟩⟩
open Classical in
theorem connected_ok {h : IH} (hB : BaseT h) {n : Nat} {E : List (Nat × Nat)} {v : Value} (hG : graphErr n (castE E) = 0) (hE : SlOf h 2 v E.length (eCells (castE E))) (set : Nat) (hs : set < 2 ^ n) :
    WV Proofs.Tryd.prog (.func (.func 37) #[] #[]) [.agg #[KI n, v], K64 set] h fun r h' => Ext h h' ∧ r = .tuple #[.bool (decide (Conn (adjOf E) set)), KI 0] := by
  obtain ⟨m, hm, hm0, hm64, hV, hlen⟩ := graph_ok hG
  obtain rfl : n = m := by omega
  have hp : 2 ^ n ≤ 2 ^ 64 := Nat.pow_le_pow_right (by omega) (by omega)
  have hl : (castE E).length = E.length := by simp [castE]
  refine enter (nt := 18) (rs := [.tmp 4, .tmp 5]) Proofs.Tryd.func37 rfl rfl rfl (by simp) ?_
  simp -dsimp (maxSteps := 1000000) (disch := first | omega | (simp only [new_n, put_n]; omega) | decide +kernel | (repeat first | rw [new_n] | rw [put_n])) only [wpS, wpT, Nat.reduceEqDiff, reduceIte, Nat.reduceLT, Nat.reduceLeDiff, Nat.reduceAdd, Nat.reduceMul, Nat.reduceBEq, Int.reduceToNat, ld32, ln38]
  have e0 : Ext h (h.new (.cells [KI n, v] 0 none)) := (Ext.refl h).new _
  refine call (check_ok (n := n) (E := castE E) ⟨by omega, by omega⟩ (by rw [hl]; exact hE.keep e0.keep) (by omega) (cast_in hm64 hV) set (by omega)) ?_
  rintro r h1 ⟨hE1, rfl⟩
  have hr0 : h1.row (2 * h.n) = some [KI n, v] := by rw [hE1.row (by simp)]; exact row_new_same _ _ _ _ rfl
  have e1 := e0.trans hE1
  have hz : setErr n (castE E) set = 0 := by
    rw [setErr, if_pos hG, if_pos (by simpa using hs)]
  rw [hz]
  simp -dsimp (maxSteps := 1000000) (disch := first | omega | (simp only [new_n, put_n]; omega) | decide +kernel | (repeat first | rw [new_n] | rw [put_n])) only [wpS, wpT, Nat.reduceEqDiff, reduceIte, Nat.reduceLT, Nat.reduceLeDiff, Nat.reduceAdd, Nat.reduceMul, Nat.reduceBEq, Int.reduceToNat, ld32, ln38, hr0]
  refine call (components_ok (hB.ext e1) hm64 hm0 (hE.keep e1.keep) (by omega) hV set hs) ?_
  rintro r h2 ⟨hE2, c, cs, hsl, hc, hcc⟩
  simp -dsimp (maxSteps := 1000000) (disch := first | omega | (simp only [new_n, put_n]; omega) | decide +kernel | (repeat first | rw [new_n] | rw [put_n])) only [wpS, wpT, Nat.reduceEqDiff, reduceIte, Nat.reduceLT, Nat.reduceLeDiff, Nat.reduceAdd, Nat.reduceMul, Nat.reduceBEq, Int.reduceToNat, ld32, ln38, hsl.len sl38]
  have hd : ((c : Int) == 1) = decide (Conn (adjOf E) set) := by
    rw [Bool.eq_iff_iff, beq_iff_eq, decide_eq_true_eq, ← hcc]; omega
  rw [hd]
  exact ⟨e1.trans hE2, rfl⟩

/-- What Check answers. -/
def enErr (n : Int) (E : List (Int × Int)) (ws : List Int) (lo hi d : Int) : Int :=
  if graphErr n E = 0 then (if n ≤ 12 then (if ws.length = n ∧ (∀ w ∈ ws, 0 ≤ w ∧ w ≤ 1000000000) ∧ 1 ≤ d ∧ d ≤ 8 ∧ 0 ≤ lo ∧ lo ≤ hi then 0 else 2) else 3) else 180
theorem check1_ok {h : IH} (w : Int) (hw : In64 w) : WV Proofs.Tryd.prog (.func (.func 63) #[] #[]) [KI w] h fun r h' => h' = h ∧ r = .bool (decide (w < 0) || decide (1000000000 < w)) := by
  refine enter (nt := 9) (rs := [.tmp 2]) Proofs.Tryd.func63 rfl rfl rfl (by simp) ?_
  by_cases c1 : w < 0
  · simp -dsimp (maxSteps := 1000000) (disch := first | omega | (simp only [new_n, put_n]; omega) | decide +kernel | (repeat first | rw [new_n] | rw [put_n])) only [wpS, wpT, Nat.reduceEqDiff, reduceIte, Nat.reduceLT, Nat.reduceLeDiff, Nat.reduceAdd, Nat.reduceMul, Nat.reduceBEq, Int.reduceToNat]
    simp [c1]
  · by_cases c2 : 1000000000 < w
    · simp -dsimp (maxSteps := 1000000) (disch := first | omega | (simp only [new_n, put_n]; omega) | decide +kernel | (repeat first | rw [new_n] | rw [put_n])) only [wpS, wpT, Nat.reduceEqDiff, reduceIte, Nat.reduceLT, Nat.reduceLeDiff, Nat.reduceAdd, Nat.reduceMul, Nat.reduceBEq, Int.reduceToNat]
      simp [c1, c2]
    · simp -dsimp (maxSteps := 1000000) (disch := first | omega | (simp only [new_n, put_n]; omega) | decide +kernel | (repeat first | rw [new_n] | rw [put_n])) only [wpS, wpT, Nat.reduceEqDiff, reduceIte, Nat.reduceLT, Nat.reduceLeDiff, Nat.reduceAdd, Nat.reduceMul, Nat.reduceBEq, Int.reduceToNat]
      simp [c1, c2]
set_option maxHeartbeats 1000000 in
theorem enCheck_ok {h : IH} {n : Int} {E : List (Int × Int)} {v w : Value} {ws : List Int} {lo hi d : Int} (hn : In64 n) (hE : SlOf h 2 v E.length (eCells E)) (hlen : E.length < 1000000000) (hI : ∀ e ∈ E, In64 e.1 ∧ In64 e.2)
    (hW : SlOf h 1 w ws.length (ws.map KI)) (wl : ws.length ≤ 1000000) (wI : ∀ x ∈ ws, In64 x) (hlo : In64 lo) (hhi : In64 hi) (hd : In64 d) :
    WV Proofs.Tryd.prog (.func (.func 30) #[] #[]) [.agg #[KI n, v], .agg #[w, KI lo, KI hi, KI d]] h fun r h' => Ext h h' ∧ r = KI (enErr n E ws lo hi d) := by
  refine enter (nt := 47) (rs := [.tmp 4]) Proofs.Tryd.func30 rfl rfl rfl (by simp) ?_
  simp -dsimp (maxSteps := 1000000) (disch := first | omega | (simp only [new_n, put_n]; omega) | decide +kernel | (repeat first | rw [new_n] | rw [put_n])) only [wpS, wpT, Nat.reduceEqDiff, reduceIte, Nat.reduceLT, Nat.reduceLeDiff, Nat.reduceAdd, Nat.reduceMul, Nat.reduceBEq, Int.reduceToNat, ld32, fa32_0, ld3, fa35_0, ld33, fa35_3, fa35_1, fa35_2, ln33]
  have e0 : Ext h ((h.new (.cells [KI n, v] 0 none)).new (.cells [w, KI lo, KI hi, KI d] 0 none)) := ((Ext.refl h).new _).new _
  refine call (gcheck_ok hn (hE.keep e0.keep) hlen hI) ?_
  rintro r h1 ⟨hE1, rfl⟩
  have hr0 : h1.row (2 * h.n) = some [KI n, v] := by
    rw [hE1.row (by simp <;> omega), row_even]; simp only [IH.cells]; rw [get_new_old _ _ (by simp), get_new_same _ _ rfl]
  have hr1 : h1.row (2 * (h.n + 1)) = some [w, KI lo, KI hi, KI d] := by
    rw [hE1.row (by simp <;> omega), row_even]; simp only [IH.cells]; rw [get_new_same _ _ (by simp)]
  have hE2 := e0.trans hE1
  have hWn := (hW.keep hE2.keep).now
  rcases graphErr_or n E with ⟨h0, hn1, hn2⟩ | h0
  · rw [h0]
    by_cases c1 : n ≤ 12
    · have bad : ¬ (ws.length = n ∧ (∀ w ∈ ws, 0 ≤ w ∧ w ≤ 1000000000) ∧ 1 ≤ d ∧ d ≤ 8 ∧ 0 ≤ lo ∧ lo ≤ hi) → enErr n E ws lo hi d = 2 := fun hb => by rw [enErr, if_pos h0, if_pos c1, if_neg hb]
      by_cases c2 : ws.length = n
      · simp -dsimp (maxSteps := 1000000) (disch := first | omega | (simp only [new_n, put_n]; omega) | decide +kernel | (repeat first | rw [new_n] | rw [put_n])) only [wpS, wpT, Nat.reduceEqDiff, reduceIte, Nat.reduceLT, Nat.reduceLeDiff, Nat.reduceAdd, Nat.reduceMul, Nat.reduceBEq, Int.reduceToNat, ld32, fa32_0, ld3, fa35_0, ld33, fa35_3, fa35_1, fa35_2, ln33, hr0, hr1, hWn.len sl33]
        refine call (containsFunc_ok (fun x => decide (x < 0) || decide (1000000000 < x)) hWn (by omega) (fun x hx => check1_ok x (wI x hx))) ?_
        rintro _ _ ⟨rfl, rfl⟩
        cases c3 : ws.any fun x => decide (x < 0) || decide (1000000000 < x)
        · have c3' : ∀ w ∈ ws, 0 ≤ w ∧ w ≤ 1000000000 := fun x hx => by
            have := List.any_eq_false.1 c3 x hx
            simp at this; omega
          by_cases c4 : d < 1
          · simp -dsimp (maxSteps := 1000000) (disch := first | omega | (simp only [new_n, put_n]; omega) | decide +kernel | (repeat first | rw [new_n] | rw [put_n])) only [wpS, wpT, Nat.reduceEqDiff, reduceIte, Nat.reduceLT, Nat.reduceLeDiff, Nat.reduceAdd, Nat.reduceMul, Nat.reduceBEq, Int.reduceToNat, ld32, fa32_0, ld3, fa35_0, ld33, fa35_3, fa35_1, fa35_2, ln33, hr0, hr1]
            exact ⟨hE2, by rw [bad (by omega)]⟩
          by_cases c5 : 8 < d
          · simp -dsimp (maxSteps := 1000000) (disch := first | omega | (simp only [new_n, put_n]; omega) | decide +kernel | (repeat first | rw [new_n] | rw [put_n])) only [wpS, wpT, Nat.reduceEqDiff, reduceIte, Nat.reduceLT, Nat.reduceLeDiff, Nat.reduceAdd, Nat.reduceMul, Nat.reduceBEq, Int.reduceToNat, ld32, fa32_0, ld3, fa35_0, ld33, fa35_3, fa35_1, fa35_2, ln33, hr0, hr1]
            exact ⟨hE2, by rw [bad (by omega)]⟩
          by_cases c6 : lo < 0
          · simp -dsimp (maxSteps := 1000000) (disch := first | omega | (simp only [new_n, put_n]; omega) | decide +kernel | (repeat first | rw [new_n] | rw [put_n])) only [wpS, wpT, Nat.reduceEqDiff, reduceIte, Nat.reduceLT, Nat.reduceLeDiff, Nat.reduceAdd, Nat.reduceMul, Nat.reduceBEq, Int.reduceToNat, ld32, fa32_0, ld3, fa35_0, ld33, fa35_3, fa35_1, fa35_2, ln33, hr0, hr1]
            exact ⟨hE2, by rw [bad (by omega)]⟩
          by_cases c7 : hi < lo
          · simp -dsimp (maxSteps := 1000000) (disch := first | omega | (simp only [new_n, put_n]; omega) | decide +kernel | (repeat first | rw [new_n] | rw [put_n])) only [wpS, wpT, Nat.reduceEqDiff, reduceIte, Nat.reduceLT, Nat.reduceLeDiff, Nat.reduceAdd, Nat.reduceMul, Nat.reduceBEq, Int.reduceToNat, ld32, fa32_0, ld3, fa35_0, ld33, fa35_3, fa35_1, fa35_2, ln33, hr0, hr1]
            exact ⟨hE2, by rw [bad (by omega)]⟩
          · simp -dsimp (maxSteps := 1000000) (disch := first | omega | (simp only [new_n, put_n]; omega) | decide +kernel | (repeat first | rw [new_n] | rw [put_n])) only [wpS, wpT, Nat.reduceEqDiff, reduceIte, Nat.reduceLT, Nat.reduceLeDiff, Nat.reduceAdd, Nat.reduceMul, Nat.reduceBEq, Int.reduceToNat, ld32, fa32_0, ld3, fa35_0, ld33, fa35_3, fa35_1, fa35_2, ln33, hr0, hr1]
            exact ⟨hE2, by rw [enErr, if_pos h0, if_pos c1, if_pos ⟨c2, c3', by omega⟩]⟩
        · simp -dsimp (maxSteps := 1000000) (disch := first | omega | (simp only [new_n, put_n]; omega) | decide +kernel | (repeat first | rw [new_n] | rw [put_n])) only [wpS, wpT, Nat.reduceEqDiff, reduceIte, Nat.reduceLT, Nat.reduceLeDiff, Nat.reduceAdd, Nat.reduceMul, Nat.reduceBEq, Int.reduceToNat, ld32, fa32_0, ld3, fa35_0, ld33, fa35_3, fa35_1, fa35_2, ln33, hr0, hr1]
          refine ⟨hE2, ?_⟩
          rw [bad]
          rintro ⟨_, hh, _⟩
          obtain ⟨x, hx, h3⟩ := List.any_eq_true.1 c3
          have := hh x hx
          simp at h3; omega
      · simp -dsimp (maxSteps := 1000000) (disch := first | omega | (simp only [new_n, put_n]; omega) | decide +kernel | (repeat first | rw [new_n] | rw [put_n])) only [wpS, wpT, Nat.reduceEqDiff, reduceIte, Nat.reduceLT, Nat.reduceLeDiff, Nat.reduceAdd, Nat.reduceMul, Nat.reduceBEq, Int.reduceToNat, ld32, fa32_0, ld3, fa35_0, ld33, fa35_3, fa35_1, fa35_2, ln33, hr0, hr1, hWn.len sl33]
        exact ⟨hE2, by rw [bad (fun x => c2 x.1)]⟩
    · simp -dsimp (maxSteps := 1000000) (disch := first | omega | (simp only [new_n, put_n]; omega) | decide +kernel | (repeat first | rw [new_n] | rw [put_n])) only [wpS, wpT, Nat.reduceEqDiff, reduceIte, Nat.reduceLT, Nat.reduceLeDiff, Nat.reduceAdd, Nat.reduceMul, Nat.reduceBEq, Int.reduceToNat, ld32, fa32_0, ld3, fa35_0, ld33, fa35_3, fa35_1, fa35_2, ln33, hr0, hr1]
      exact ⟨hE2, by rw [enErr, if_pos h0, if_neg c1]⟩
  · rw [h0]
    simp -dsimp (maxSteps := 1000000) (disch := first | omega | (simp only [new_n, put_n]; omega) | decide +kernel | (repeat first | rw [new_n] | rw [put_n])) only [wpS, wpT, Nat.reduceEqDiff, reduceIte, Nat.reduceLT, Nat.reduceLeDiff, Nat.reduceAdd, Nat.reduceMul, Nat.reduceBEq, Int.reduceToNat, ld32, fa32_0, ld3, fa35_0, ld33, fa35_3, fa35_1, fa35_2, ln33]
    exact ⟨hE2, by rw [enErr, if_neg (by omega)]⟩
end Go.Id

/-! Weakest preconditions over the ideal machine, twelfth part: a store into a list that grows. -/
namespace Go.Id
open Go

theorem Acc.set {h : IH} {n0 : Nat} {v : Value} {n : Nat} {cs : List Value} (a : Acc h n0 1 v n cs) {P : Program} {t : TypeId} (hT : sizeT P t = some 1) {i : Nat} (hi : i < n) {x : Value} (hx : x.cells = #[x]) (hc : cellOK x = true) {h0' : IH} (e0 : Ext h0' h) (hn0 : h0'.n ≤ n0) :
    ∃ h', store P h t (elemAddr v i) x = some h' ∧ Acc h' n0 1 v n (cs.set i x) ∧ Ext h0' h' ∧ h'.n = h.n := by
  obtain ⟨hz, hl, ⟨rfl, rfl⟩ | ⟨k, fam, rfl, hn, h1, h2, h3, h4⟩⟩ := a
  · omega
  · have hsp : IH.splice cs i [x] = cs.set i x := splice_set (by omega)
    have k2 : 2 * k / 2 = k := by omega
    have k1 : (2 * k % 2 == 1) = false := by simp
    have hst : store P h t (elemAddr (.slice (some ⟨2 * k, 0, none⟩) n (2 * n)) i) x = h.wr (2 * k) i [x] := by
      simp only [elemAddr, Nat.zero_add, store, asAddr, ptr, hT, hx]
      simp [hc]
    have hle : Nat.ble (i + [x].length) cs.length = true := by rw [Nat.ble_eq]; simp; omega
    rw [hst]
    cases fam with
    | none =>
      refine ⟨h.put k (.cells (cs.set i x) 1 none), ?_, ⟨hz, by simpa using hl, .inr ⟨k, none, rfl, hn, h1, h2, get_put_same _ _ rfl, trivial⟩⟩, e0.put (by omega) _, rfl⟩
      simp only [IH.wr, k1, k2, h3, hle, cond_true, cond_false, hsp]; rfl
    | some f =>
      obtain ⟨a1, a2, rest, a3, a4⟩ := h4
      refine ⟨{ h with ext := (IH.killAll h.ext (((k :: rest).filter (· != k)))).set k (.cells (cs.set i x) 1 none) }, ?_, ⟨hz, by simpa using hl, .inr ⟨k, none, rfl, hn, h1, h2, ?_, trivial⟩⟩, ⟨e0.n, e0.base, fun j hj => ?_, e0.fams⟩, rfl⟩
      · simp only [IH.wr, k1, k2, h3, hle, cond_true, cond_false, hsp, a3]
      · simp [Tr.get_set]
      · have hjk : j ≠ k := by omega
        rw [Tr.get_set, if_neg hjk, get_killAll, if_neg]
        · exact e0.get j hj
        · intro hm
          simp only [List.mem_filter, List.mem_cons, bne_iff_ne, ne_eq] at hm
          rcases hm with ⟨rfl | hm, hne⟩
          · exact hne rfl
          · have := a4 j hm; omega
end Go.Id

/-! Contracts: the drafted graph. -/
namespace Go.Id
open Go

abbrev K8 (n : Nat) : Value := .int .u8 (n : Int)
abbrev K16 (n : Nat) : Value := .int .u16 (n : Int)
theorem fget_ne {s j : Nat} {v : Value} {r : Fr} (h : s ≠ j) : fget ((s, v) :: r) j = fget r j := by rw [fget_cons, if_neg h]
/-- Shifts and bits of sixteen bits: something comes out. -/
theorem shr_16 (P : Program) (t : TypeId) (ox oy : Operand) {j : IntKind} (a b : Nat) : binop P .shr t ox oy (K16 a) (.int j b) = some (.int .u16 ((a : Int).fdiv (2 ^ (min b 16)))) := binop_shr P t ox oy (k := .u16) (by omega)
theorem and_16 (P : Program) (t : TypeId) (ox oy : Operand) (a b : Int) : ∃ z, binop P .and t ox oy (.int .u16 a) (.int .u16 b) = some (.int .u16 z) := ⟨_, binop_and_raw P t ox oy .u16 a b⟩
/-- An element's element. -/
theorem idx_elem {h : IH} {sz : Nat} {v : Value} {n : Nat} {cs : List Value} (s : SlOf h sz v n cs) {c : Nat} (hc : c < cs.length) {P : Program} {t : TypeId} {m z : Nat} (hT : arrOf P t = some (m, z)) {k : IntKind} {j : Nat} (hj : j < m) :
    indexAddr P t (elemAddr v c) (.int k j) = some (elemAddr v (c + j * z)) := by
  obtain ⟨b, o, h1, h2⟩ := asAddr_elem s hc
  rw [h1, h2, indexAddr_arr, hT]
  simp [idxAt_nat hj, Nat.add_assoc]

/-! ### Edges that rise -/
/-- The last pair of a list, or what stands before it. -/
def lastP (p : Int × Int) : List (Int × Int) → Int × Int
  | [] => p
  | x :: l => lastP x l
theorem edgesB_app (n : Int) (x : Int × Int) : ∀ (l : List (Int × Int)) (p : Int × Int), edgesB n p l = true → 0 ≤ x.1 → x.1 < x.2 → x.2 < n → ((lastP p l).1 < x.1 ∨ (lastP p l).1 = x.1 ∧ (lastP p l).2 < x.2) → edgesB n p (l ++ [x]) = true
  | [], p, _, h1, h2, h3, h4 => by
    simp only [lastP] at h4
    have h5 : cmpL [p.1, p.2] [x.1, x.2] < 0 := by
      simp only [cmpL]
      rcases h4 with h4 | ⟨h4, h5⟩
      · rw [if_pos h4]; decide
      · rw [if_neg (by omega), if_neg (by omega), if_pos h5]; decide
    simp [edgesB, h1, h2, h3, h5]
  | y :: l, p, h, h1, h2, h3, h4 => by
    rw [edgesB] at h
    simp only [Bool.and_eq_true] at h
    rw [List.cons_append, edgesB]
    simp only [Bool.and_eq_true]
    exact ⟨h.1, edgesB_app n x l y h.2 h1 h2 h3 h4⟩
theorem lastP_app (x : Int × Int) : ∀ (l : List (Int × Int)) (p : Int × Int), lastP p (l ++ [x]) = x
  | [], _ => rfl
  | y :: l, _ => lastP_app x l y
theorem castE_app (E : List (Nat × Nat)) (a b : Nat) : castE (E ++ [(a, b)]) = castE E ++ [((a : Int), (b : Int))] := by simp [castE]
theorem eCells_app (E : List (Int × Int)) (a b : Int) : eCells (E ++ [(a, b)]) = eCells E ++ [KI a, KI b] := by simp [eCells]
/-- Edges that rise and come before a pair. -/
def Before (n : Nat) (E : List (Nat × Nat)) (a b : Nat) : Prop := edgesB n (-1, -1) (castE E) = true ∧ ((lastP (-1, -1) (castE E)).1 < a ∨ (lastP (-1, -1) (castE E)).1 = a ∧ (lastP (-1, -1) (castE E)).2 < b)
theorem Before.skip {n : Nat} {E : List (Nat × Nat)} {a b c d : Nat} (h : Before n E a b) (hl : a < c ∨ a = c ∧ b ≤ d) : Before n E c d := ⟨h.1, by have := h.2; omega⟩
theorem Before.app {n : Nat} {E : List (Nat × Nat)} {a b : Nat} (h : Before n E a b) (h1 : a < b) (h2 : b < n) : Before n (E ++ [(a, b)]) a (b + 1) := by
  refine ⟨?_, ?_⟩
  · rw [castE_app]
    exact edgesB_app n _ _ _ h.1 (by simp) (by simp; omega) (by simp; omega) h.2
  · rw [castE_app, lastP_app]
    simp; omega
theorem cutQ {P : Program} {fn : FuncId} {nt : Nat} {rd : Option Nat} {a : Code} {fr : Fr} {h : IH} {Q : IExit → Fr → IH → Prop} (R : Fr → IH → Prop)
    (w : Do (wpC P fn nt rd a fr h) (seqK (fun fr h => Pst (R fr h) nx) Q) nx) (k : ∀ fr h, R fr h → Q .normal fr h) : Do (wpC P fn nt rd a fr h) Q nx :=
  wpC_mono (fun e fr h w => by cases e <;> first | exact k _ _ w | exact w) w
/-- The memory while a drafted graph grows. -/
structure GH (T hh : IH) (g n : Nat) (out : Value) (E : List (Nat × Nat)) : Prop where
  e : Ext T hh
  gg : hh.ext.get g = some (.cells [KI n, out] 0 none)
  lg : g < hh.n
  hg : T.n ≤ g
  acc : Acc hh (g + 1) 2 out E.length (eCells (castE E))
set_option maxHeartbeats 8000000 in
theorem draftGraph_ok {h : IH} (wd hi less : Nat) {mv : Value} {mn : Nat} {ms : List Value} (hm : SlOf h 2 mv mn ms) (h8 : ∀ x ∈ ms, ∃ i : Nat, x = K8 i ∧ i < 256) (h1 : wd < 256) (h2 : hi < 256) (h3 : less < 65536) :
    WV Proofs.Tryd.prog (.func (.func 50) #[] #[]) [.agg #[K8 wd, K8 hi, K16 less, mv]] h fun r h' => Ext h h' ∧ ∃ (E : List (Nat × Nat)) (v : Value), r = .agg #[KI (((1 + wd % 4) * (1 + hi % 3) : Nat) : Int), v] ∧ SlOf h' 2 v E.length (eCells (castE E)) ∧ graphErr (((1 + wd % 4) * (1 + hi % 3) : Nat) : Int) (castE E) = 0 := by
  obtain ⟨W, hW⟩ : ∃ W, W = 1 + wd % 4 := ⟨_, rfl⟩
  obtain ⟨H, hH⟩ : ∃ H, H = 1 + hi % 3 := ⟨_, rfl⟩
  rw [← hW, ← hH]
  have hn1 : 1 ≤ W * H := Nat.mul_pos (by omega) (by omega)
  have hn2 : W * H ≤ 4 * 3 := Nat.mul_le_mul (by omega) (by omega)
  obtain ⟨n, hn⟩ : ∃ n, n = W * H := ⟨_, rfl⟩
  rw [← hn] at hn1 hn2 ⊢
  have eW : 1 + (wd : Int) % 4 = (W : Int) := by omega
  have eH : 1 + (hi : Int) % 3 = (H : Int) := by omega
  have eN : (W : Int) * (H : Int) = (n : Int) := by rw [hn, Int.natCast_mul]
  refine enter (nt := 137) (rs := [.cell 2 32]) Proofs.Tryd.func50 rfl rfl rfl (by simp) ?_
  simp -dsimp (maxSteps := 1000000) (disch := first | omega | (simp only [new_n, put_n]; omega) | decide +kernel | (repeat first | rw [new_n] | rw [put_n])) only [wpS, wpT, Nat.reduceEqDiff, reduceIte, Nat.reduceLT, Nat.reduceLeDiff, Nat.reduceAdd, Nat.reduceMul, Nat.reduceBEq, Int.reduceToNat, zc32, fa25_0, ld5, cv5_3, fa25_1, bv32, pl32_0, st32, fa32_0, ld3, fa25_2, ld22, cv3_116, fa25_3, ld23, es23, ar137, fa32_1, ld30, bv52, pl52_0, pl52_1, bs30, st30, ld32, ln23, ba30_30, hm.cells, hm.cok, eW, eH, eN]
  obtain ⟨T, hT⟩ : ∃ T, T = (h.new (.cells [K8 wd, K8 hi, K16 less, mv] 0 none)).new (.cells [.int .i64 0, .slice none 0 0] 0 none) := ⟨_, rfl⟩
  have hTn : T.n = h.n + 2 := by rw [hT]; rfl
  have eT : Ext h T := by rw [hT]; exact ((Ext.refl h).new _).new _
  have rT : T.row (2 * h.n) = some [K8 wd, K8 hi, K16 less, mv] := by rw [hT, row_even]; simp only [IH.cells]; simp (disch := first | omega | (simp only [new_n, put_n]; omega) | (repeat first | rw [new_n] | rw [put_n])) only [get_new_same, get_new_old, get_put_same, get_put_old]
  have gT : T.ext.get (h.n + 1) = some (.cells [.int .i64 0, .slice none 0 0] 0 none) := by rw [hT]; simp (disch := first | omega | (simp only [new_n, put_n]; omega) | (repeat first | rw [new_n] | rw [put_n])) only [get_new_same, get_new_old, get_put_same, get_put_old]
  rw [← hT]
  have gh0 : GH T ((T.new (.cells [.int .i64 0, .slice none 0 0] 0 none)).put (h.n + 1 + 1) (.cells [.int .i64 n, .slice none 0 0] 0 none)) (h.n + 2) n (.slice none 0 0) [] :=
    ⟨((Ext.refl T).new _).put (by omega) _, get_put_same _ _ rfl, by simp only [new_n, put_n]; omega, by omega, Acc.nil _ _ (by decide)⟩
  generalize (T.new (.cells [.int .i64 0, .slice none 0 0] 0 none)).put (h.n + 1 + 1) (.cells [.int .i64 n, .slice none 0 0] 0 none) = hh0 at *
  have b0 : Before n [] 0 0 := ⟨rfl, .inl (by simp [castE, lastP])⟩
  refine loop (fun m fr hh => ∃ (a c : Nat) (E : List (Nat × Nat)) (out : Value), a + m = n ∧ GH T hh (h.n + 2) n out E ∧ Before n E a 0 ∧ E.length ≤ 12 * a ∧ c ≤ 12 * a ∧ fget fr 1 = some (ptr (2 * h.n) 0) ∧ fget fr 2 = some (ptr (2 * (h.n + 1)) 0) ∧ fget fr 3 = some (KI W) ∧ fget fr 5 = some (ptr (2 * (h.n + 1 + 1)) 0) ∧ fget fr 6 = some (KI c) ∧ fget fr 7 = some (KI a)) n
    ⟨0, 0, [], _, by omega, gh0, b0, by simp, by omega, by simp, by simp, by simp, by simp, by simp, by simp⟩ ?_
  rintro m fr hh ⟨a, c, E, out, ham, hG, hB, hEl, hcl, f1, f2, f3, f5, f6, f7⟩
  have rg : hh.row (2 * (h.n + 1 + 1)) = some [KI n, out] := by rw [row_even]; simp only [IH.cells, hG.gg]
  simp -dsimp (maxSteps := 1000000) (disch := first | omega | (simp only [new_n, put_n]; omega) | decide +kernel | (repeat first | rw [new_n] | rw [put_n])) only [wpS, wpT, Nat.reduceEqDiff, reduceIte, Nat.reduceLT, Nat.reduceLeDiff, Nat.reduceAdd, Nat.reduceMul, Nat.reduceBEq, Int.reduceToNat, zc32, fa25_0, ld5, cv5_3, fa25_1, bv32, pl32_0, st32, fa32_0, ld3, fa25_2, ld22, cv3_116, fa25_3, ld23, es23, ar137, fa32_1, ld30, bv52, pl52_0, pl52_1, bs30, st30, ld32, ln23, ba30_30, f1, f2, f3, f5, f6, f7, rg]
  refine bq_intro ?_ ?_ <;> intro hc <;> simp only [bne_iff_ne, beq_iff_eq, decide_eq_true_eq, decide_eq_false_iff_not, bne_eq_false_iff_eq, beq_eq_false_iff_ne, ne_eq, Bool.not_eq_true', Bool.not_eq_false', Bool.not_eq_true, Bool.not_eq_false, Decidable.not_not, Bool.not_not] at hc
  · simp -dsimp (maxSteps := 1000000) (disch := first | omega | (simp only [new_n, put_n]; omega) | decide +kernel | (repeat first | rw [new_n] | rw [put_n])) only [wpS, wpT, Nat.reduceEqDiff, reduceIte, Nat.reduceLT, Nat.reduceLeDiff, Nat.reduceAdd, Nat.reduceMul, Nat.reduceBEq, Int.reduceToNat, zc32, fa25_0, ld5, cv5_3, fa25_1, bv32, pl32_0, st32, fa32_0, ld3, fa25_2, ld22, cv3_116, fa25_3, ld23, es23, ar137, fa32_1, ld30, bv52, pl52_0, pl52_1, bs30, st30, ld32, ln23, ba30_30, f1, f2, f3, f5, f6, f7, rg]
    refine loop (fun m2 fr hh => ∃ (b c : Nat) (E : List (Nat × Nat)) (out : Value), b + m2 = n ∧ a < b ∧ GH T hh (h.n + 2) n out E ∧ Before n E a b ∧ E.length ≤ 12 * a + b ∧ c ≤ 12 * a + b ∧ fget fr 1 = some (ptr (2 * h.n) 0) ∧ fget fr 2 = some (ptr (2 * (h.n + 1)) 0) ∧ fget fr 3 = some (KI W) ∧ fget fr 5 = some (ptr (2 * (h.n + 1 + 1)) 0) ∧ fget fr 6 = some (KI c) ∧ fget fr 7 = some (KI a) ∧ fget fr 8 = some (KI b)) (n - (a + 1))
      ⟨a + 1, c, E, out, by omega, by omega, hG, hB.skip (by omega), by omega, by omega, by simp [f1], by simp [f2], by simp [f3], by simp [f5], by simp [f6], by simp [f7], by simp⟩ ?_
    clear rg
    rintro m2 fr hh ⟨b, c, E, out, hbm, hab, hG, hB, hEl, hcl, f1, f2, f3, f5, f6, f7, f8⟩
    have rg : hh.row (2 * (h.n + 1 + 1)) = some [KI n, out] := by rw [row_even]; simp only [IH.cells, hG.gg]
    rw [d_seq]
    simp -dsimp (maxSteps := 1000000) (disch := first | omega | (simp only [new_n, put_n]; omega) | decide +kernel | (repeat first | rw [new_n] | rw [put_n])) only [wpS, wpT, Nat.reduceEqDiff, reduceIte, Nat.reduceLT, Nat.reduceLeDiff, Nat.reduceAdd, Nat.reduceMul, Nat.reduceBEq, Int.reduceToNat, zc32, fa25_0, ld5, cv5_3, fa25_1, bv32, pl32_0, st32, fa32_0, ld3, fa25_2, ld22, cv3_116, fa25_3, ld23, es23, ar137, fa32_1, ld30, bv52, pl52_0, pl52_1, bs30, st30, ld32, ln23, ba30_30, f1, f2, f3, f5, f6, f7, f8, rg]
    refine bq_intro ?_ ?_ <;> intro hc2 <;> simp only [bne_iff_ne, beq_iff_eq, decide_eq_true_eq, decide_eq_false_iff_not, bne_eq_false_iff_eq, beq_eq_false_iff_ne, ne_eq, Bool.not_eq_true', Bool.not_eq_false', Bool.not_eq_true, Bool.not_eq_false, Decidable.not_not, Bool.not_not] at hc2
    · have hW1 : 1 ≤ W := by omega
      have hW4 : W ≤ 4 := by omega
      simp -dsimp (maxSteps := 1000000) (disch := first | omega | (simp only [new_n, put_n]; omega) | decide +kernel | (repeat first | rw [new_n] | rw [put_n])) only [wpR, wpT, Nat.reduceEqDiff, reduceIte, Nat.reduceLT, Nat.reduceLeDiff, Nat.reduceAdd, Nat.reduceMul, Nat.reduceBEq, Int.reduceToNat, zc32, fa25_0, ld5, cv5_3, fa25_1, bv32, pl32_0, st32, fa32_0, ld3, fa25_2, ld22, cv3_116, fa25_3, ld23, es23, ar137, fa32_1, ld30, bv52, pl52_0, pl52_1, bs30, st30, ld32, ln23, ba30_30, f1]
      rw [d_seq]
      simp -dsimp (maxSteps := 1000000) (disch := first | omega | (simp only [new_n, put_n]; omega) | decide +kernel | (repeat first | rw [new_n] | rw [put_n])) only [wpR, wpT, Nat.reduceEqDiff, reduceIte, Nat.reduceLT, Nat.reduceLeDiff, Nat.reduceAdd, Nat.reduceMul, Nat.reduceBEq, Int.reduceToNat, zc32, fa25_0, ld5, cv5_3, fa25_1, bv32, pl32_0, st32, fa32_0, ld3, fa25_2, ld22, cv3_116, fa25_3, ld23, es23, ar137, fa32_1, ld30, bv52, pl52_0, pl52_1, bs30, st30, ld32, ln23, ba30_30, f1]
      rw [d_seq]
      refine cut (fun fr' h' => h' = hh ∧ (∃ is : Bool, fget fr' 9 = some (.bool is)) ∧ ∀ j, j < 9 → fget fr' j = fget fr j) ?_ ?_
      · cases c1 : ((b : Int) == (a : Int) + (W : Int))
        · cases c2 : ((b : Int) == (a : Int) + 1)
          · simp -dsimp (maxSteps := 1000000) (disch := first | omega | (simp only [new_n, put_n]; omega) | decide +kernel | (repeat first | rw [new_n] | rw [put_n])) only [wpS, wpT, Nat.reduceEqDiff, reduceIte, Nat.reduceLT, Nat.reduceLeDiff, Nat.reduceAdd, Nat.reduceMul, Nat.reduceBEq, Int.reduceToNat, zc32, fa25_0, ld5, cv5_3, fa25_1, bv32, pl32_0, st32, fa32_0, ld3, fa25_2, ld22, cv3_116, fa25_3, ld23, es23, ar137, fa32_1, ld30, bv52, pl52_0, pl52_1, bs30, st30, ld32, ln23, ba30_30, f1, f2, f3, f5, f6, f7, f8, c1, c2]
            exact ⟨rfl, ⟨_, rfl⟩, fun j hj => by simp (disch := omega) only [fget_ne]⟩
          · cases c3 : ((b : Int) % (W : Int) != 0)
            · simp -dsimp (maxSteps := 1000000) (disch := first | omega | (simp only [new_n, put_n]; omega) | decide +kernel | (repeat first | rw [new_n] | rw [put_n])) only [wpS, wpT, Nat.reduceEqDiff, reduceIte, Nat.reduceLT, Nat.reduceLeDiff, Nat.reduceAdd, Nat.reduceMul, Nat.reduceBEq, Int.reduceToNat, zc32, fa25_0, ld5, cv5_3, fa25_1, bv32, pl32_0, st32, fa32_0, ld3, fa25_2, ld22, cv3_116, fa25_3, ld23, es23, ar137, fa32_1, ld30, bv52, pl52_0, pl52_1, bs30, st30, ld32, ln23, ba30_30, f1, f2, f3, f5, f6, f7, f8, c1, c2, c3]
              exact ⟨rfl, ⟨_, rfl⟩, fun j hj => by simp (disch := omega) only [fget_ne]⟩
            · simp -dsimp (maxSteps := 1000000) (disch := first | omega | (simp only [new_n, put_n]; omega) | decide +kernel | (repeat first | rw [new_n] | rw [put_n])) only [wpS, wpT, Nat.reduceEqDiff, reduceIte, Nat.reduceLT, Nat.reduceLeDiff, Nat.reduceAdd, Nat.reduceMul, Nat.reduceBEq, Int.reduceToNat, zc32, fa25_0, ld5, cv5_3, fa25_1, bv32, pl32_0, st32, fa32_0, ld3, fa25_2, ld22, cv3_116, fa25_3, ld23, es23, ar137, fa32_1, ld30, bv52, pl52_0, pl52_1, bs30, st30, ld32, ln23, ba30_30, f1, f2, f3, f5, f6, f7, f8, c1, c2, c3]
              exact ⟨rfl, ⟨_, rfl⟩, fun j hj => by simp (disch := omega) only [fget_ne]⟩
        · simp -dsimp (maxSteps := 1000000) (disch := first | omega | (simp only [new_n, put_n]; omega) | decide +kernel | (repeat first | rw [new_n] | rw [put_n])) only [wpS, wpT, Nat.reduceEqDiff, reduceIte, Nat.reduceLT, Nat.reduceLeDiff, Nat.reduceAdd, Nat.reduceMul, Nat.reduceBEq, Int.reduceToNat, zc32, fa25_0, ld5, cv5_3, fa25_1, bv32, pl32_0, st32, fa32_0, ld3, fa25_2, ld22, cv3_116, fa25_3, ld23, es23, ar137, fa32_1, ld30, bv52, pl52_0, pl52_1, bs30, st30, ld32, ln23, ba30_30, f1, f2, f3, f5, f6, f7, f8, c1]
          exact ⟨rfl, ⟨_, rfl⟩, fun j hj => by simp (disch := omega) only [fget_ne]⟩
      rintro fr2 hx ⟨hhx, ⟨is, g9⟩, hk⟩
      have hhx := hhx.symm
      subst hhx
      have g1 := (hk 1 (by omega)).trans f1
      have g2 := (hk 2 (by omega)).trans f2
      have g3 := (hk 3 (by omega)).trans f3
      have g5 := (hk 5 (by omega)).trans f5
      have g6 := (hk 6 (by omega)).trans f6
      have g7 := (hk 7 (by omega)).trans f7
      have g8 := (hk 8 (by omega)).trans f8
      clear f1 f2 f3 f5 f6 f7 f8 hk
      rw [d_seq]
      refine cut (fun fr' h' => h' = hh ∧ (∃ is : Bool, fget fr' 9 = some (.bool is)) ∧ (∃ c' : Nat, fget fr' 6 = some (KI c') ∧ c' ≤ c + 1) ∧ ∀ j, j < 9 → j ≠ 6 → fget fr' j = fget fr2 j) ?_ ?_
      · have rd : hh.row (2 * h.n) = some [K8 wd, K8 hi, K16 less, mv] := by rw [hG.e.row (.inr (by omega))]; exact rT
        simp -dsimp (maxSteps := 1000000) (disch := first | omega | (simp only [new_n, put_n]; omega) | decide +kernel | (repeat first | rw [new_n] | rw [put_n])) only [wpS, wpT, Nat.reduceEqDiff, reduceIte, Nat.reduceLT, Nat.reduceLeDiff, Nat.reduceAdd, Nat.reduceMul, Nat.reduceBEq, Int.reduceToNat, zc32, fa25_0, ld5, cv5_3, fa25_1, bv32, pl32_0, st32, fa32_0, ld3, fa25_2, ld22, cv3_116, fa25_3, ld23, es23, ar137, fa32_1, ld30, bv52, pl52_0, pl52_1, bs30, st30, ld32, ln23, ba30_30, g9, g1, g6]
        refine bq_intro ?_ ?_ <;> intro his
        · subst his
          cases c1 : ((c : Int) % 2 == 1)
          · simp -dsimp (maxSteps := 1000000) (disch := first | omega | (simp only [new_n, put_n]; omega) | decide +kernel | (repeat first | rw [new_n] | rw [put_n])) only [wpS, wpT, Nat.reduceEqDiff, reduceIte, Nat.reduceLT, Nat.reduceLeDiff, Nat.reduceAdd, Nat.reduceMul, Nat.reduceBEq, Int.reduceToNat, zc32, fa25_0, ld5, cv5_3, fa25_1, bv32, pl32_0, st32, fa32_0, ld3, fa25_2, ld22, cv3_116, fa25_3, ld23, es23, ar137, fa32_1, ld30, bv52, pl52_0, pl52_1, bs30, st30, ld32, ln23, ba30_30, g9, g1, g6, c1, rd, binop_shr, binop_and_raw]
            exact ⟨rfl, ⟨_, by simp (disch := omega) only [fget_ne]; exact g9⟩, ⟨c + 1, rfl, by omega⟩, fun j hj h6 => by simp (disch := omega) only [fget_ne]⟩
          · simp -dsimp (maxSteps := 1000000) (disch := first | omega | (simp only [new_n, put_n]; omega) | decide +kernel | (repeat first | rw [new_n] | rw [put_n])) only [wpS, wpT, Nat.reduceEqDiff, reduceIte, Nat.reduceLT, Nat.reduceLeDiff, Nat.reduceAdd, Nat.reduceMul, Nat.reduceBEq, Int.reduceToNat, zc32, fa25_0, ld5, cv5_3, fa25_1, bv32, pl32_0, st32, fa32_0, ld3, fa25_2, ld22, cv3_116, fa25_3, ld23, es23, ar137, fa32_1, ld30, bv52, pl52_0, pl52_1, bs30, st30, ld32, ln23, ba30_30, g9, g1, g6, c1, rd, binop_shr, binop_and_raw]
            refine bq_intro ?_ ?_ <;> intro hz
            · simp -dsimp (maxSteps := 1000000) (disch := first | omega | (simp only [new_n, put_n]; omega) | decide +kernel | (repeat first | rw [new_n] | rw [put_n])) only [wpS, wpT, Nat.reduceEqDiff, reduceIte, Nat.reduceLT, Nat.reduceLeDiff, Nat.reduceAdd, Nat.reduceMul, Nat.reduceBEq, Int.reduceToNat, zc32, fa25_0, ld5, cv5_3, fa25_1, bv32, pl32_0, st32, fa32_0, ld3, fa25_2, ld22, cv3_116, fa25_3, ld23, es23, ar137, fa32_1, ld30, bv52, pl52_0, pl52_1, bs30, st30, ld32, ln23, ba30_30, g9, g1, g6]
              exact ⟨rfl, ⟨_, rfl⟩, ⟨c + 1, rfl, by omega⟩, fun j hj h6 => by simp (disch := omega) only [fget_ne]⟩
            · simp -dsimp (maxSteps := 1000000) (disch := first | omega | (simp only [new_n, put_n]; omega) | decide +kernel | (repeat first | rw [new_n] | rw [put_n])) only [wpS, wpT, Nat.reduceEqDiff, reduceIte, Nat.reduceLT, Nat.reduceLeDiff, Nat.reduceAdd, Nat.reduceMul, Nat.reduceBEq, Int.reduceToNat, zc32, fa25_0, ld5, cv5_3, fa25_1, bv32, pl32_0, st32, fa32_0, ld3, fa25_2, ld22, cv3_116, fa25_3, ld23, es23, ar137, fa32_1, ld30, bv52, pl52_0, pl52_1, bs30, st30, ld32, ln23, ba30_30, g9, g1, g6]
              exact ⟨rfl, ⟨_, by simp (disch := omega) only [fget_ne]; exact g9⟩, ⟨c + 1, rfl, by omega⟩, fun j hj h6 => by simp (disch := omega) only [fget_ne]⟩
        · subst his
          simp -dsimp (maxSteps := 1000000) (disch := first | omega | (simp only [new_n, put_n]; omega) | decide +kernel | (repeat first | rw [new_n] | rw [put_n])) only [wpS, wpT, Nat.reduceEqDiff, reduceIte, Nat.reduceLT, Nat.reduceLeDiff, Nat.reduceAdd, Nat.reduceMul, Nat.reduceBEq, Int.reduceToNat, zc32, fa25_0, ld5, cv5_3, fa25_1, bv32, pl32_0, st32, fa32_0, ld3, fa25_2, ld22, cv3_116, fa25_3, ld23, es23, ar137, fa32_1, ld30, bv52, pl52_0, pl52_1, bs30, st30, ld32, ln23, ba30_30, g9, g1, g6]
          exact ⟨rfl, ⟨_, by simp (disch := omega) only [fget_ne]; exact g9⟩, ⟨c, by simp (disch := omega) only [fget_ne]; exact g6, by omega⟩, fun j hj h6 => by simp (disch := omega) only [fget_ne]⟩
      rintro fr3 hx ⟨hhx, ⟨is3, e9⟩, ⟨c3, e6, hc3⟩, hk⟩
      have hhx := hhx.symm
      subst hhx
      have e1 := (hk 1 (by omega) (by omega)).trans g1
      have e2 := (hk 2 (by omega) (by omega)).trans g2
      have e3 := (hk 3 (by omega) (by omega)).trans g3
      have e5 := (hk 5 (by omega) (by omega)).trans g5
      have e7 := (hk 7 (by omega) (by omega)).trans g7
      have e8 := (hk 8 (by omega) (by omega)).trans g8
      clear g1 g2 g3 g5 g6 g7 g8 g9 hk
      rw [d_seq]
      refine cut (fun fr' h' => h' = hh ∧ (∃ is : Bool, fget fr' 9 = some (.bool is)) ∧ ∀ j, j < 9 → fget fr' j = fget fr3 j) ?_ ?_
      · have rd : hh.row (2 * h.n) = some [K8 wd, K8 hi, K16 less, mv] := by rw [hG.e.row (.inr (by omega))]; exact rT
        simp -dsimp (maxSteps := 1000000) (disch := first | omega | (simp only [new_n, put_n]; omega) | decide +kernel | (repeat first | rw [new_n] | rw [put_n])) only [wpS, wpT, Nat.reduceEqDiff, reduceIte, Nat.reduceLT, Nat.reduceLeDiff, Nat.reduceAdd, Nat.reduceMul, Nat.reduceBEq, Int.reduceToNat, zc32, fa25_0, ld5, cv5_3, fa25_1, bv32, pl32_0, st32, fa32_0, ld3, fa25_2, ld22, cv3_116, fa25_3, ld23, es23, ar137, fa32_1, ld30, bv52, pl52_0, pl52_1, bs30, st30, ld32, ln23, ba30_30, e9, e1, e6]
        refine loop (fun d fr' h' => h' = hh ∧ ∃ (i : Nat) (is : Bool), i + d = 3 ∧ fget fr' 9 = some (.bool is) ∧ fget fr' 10 = some (KI i) ∧ ∀ j, j < 9 → fget fr' j = fget fr3 j) 3
          ⟨rfl, 0, is3, rfl, by simp (disch := omega) only [fget_ne]; exact e9, rfl, fun j hj => by simp (disch := omega) only [fget_ne]⟩ ?_
        rintro d fr4 hx ⟨hhx, i, is4, hid, d9, d10, hk⟩
        have hhx := hhx.symm
        subst hhx
        have d1 := (hk 1 (by omega)).trans e1
        have d5 := (hk 5 (by omega)).trans e5
        have d7 := (hk 7 (by omega)).trans e7
        have d8 := (hk 8 (by omega)).trans e8
        have hmh := (hm.ext (eT.trans hG.e))
        by_cases hi1 : (i : Int) < mn
        · by_cases hi2 : (i : Int) < 3
          · have ix := hmh.idx (P := Proofs.Tryd.prog) (t := 23) es23 (k := .i64) (j := i) (by omega)
            have hml : ms.length = mn * 2 := hmh.2.1
            have ia : indexAddr Proofs.Tryd.prog 137 (elemAddr mv (i * 2)) (.int .i64 0) = some (elemAddr mv (i * 2)) := idx_elem hmh (c := i * 2) (by omega) (P := Proofs.Tryd.prog) (t := 137) ar137 (k := .i64) (j := 0) (by decide)
            have ib : indexAddr Proofs.Tryd.prog 137 (elemAddr mv (i * 2)) (.int .i64 1) = some (elemAddr mv (i * 2 + 1)) := idx_elem hmh (c := i * 2) (by omega) (P := Proofs.Tryd.prog) (t := 137) ar137 (k := .i64) (j := 1) (by decide)
            have la := hmh.ld (Keep.refl _) (c := i * 2) (by omega) (P := Proofs.Tryd.prog) (t := 5) ag5
            have lb := hmh.ld (Keep.refl _) (c := i * 2 + 1) (by omega) (P := Proofs.Tryd.prog) (t := 5) ag5
            obtain ⟨x0, hx0⟩ : ∃ x, ms[i * 2]? = some x := ⟨_, List.getElem?_eq_getElem (by omega)⟩
            obtain ⟨y0, hy0⟩ : ∃ x, ms[i * 2 + 1]? = some x := ⟨_, List.getElem?_eq_getElem (by omega)⟩
            rw [hx0] at la
            rw [hy0] at lb
            obtain ⟨x1, rfl, hx1⟩ := h8 _ (List.mem_of_getElem? hx0)
            obtain ⟨y1, rfl, hy1⟩ := h8 _ (List.mem_of_getElem? hy0)
            rw [d_seq]
            refine cut (fun fr' h' => h' = hh ∧ ∃ is : Bool, fget fr' 9 = some (.bool is) ∧ fget fr' 10 = some (KI i) ∧ ∀ j, j < 9 → fget fr' j = fget fr4 j) ?_ ?_
            · simp -dsimp (maxSteps := 1000000) (disch := first | omega | (simp only [new_n, put_n]; omega) | decide +kernel | (repeat first | rw [new_n] | rw [put_n])) only [wpS, wpT, Nat.reduceEqDiff, reduceIte, Nat.reduceLT, Nat.reduceLeDiff, Nat.reduceAdd, Nat.reduceMul, Nat.reduceBEq, Int.reduceToNat, zc32, fa25_0, ld5, cv5_3, fa25_1, bv32, pl32_0, st32, fa32_0, ld3, fa25_2, ld22, cv3_116, fa25_3, ld23, es23, ar137, fa32_1, ld30, bv52, pl52_0, pl52_1, bs30, st30, ld32, ln23, ba30_30, d1, d9, d10, rd, hmh.len sl23]
              exact ⟨rfl, is4, by simp (disch := omega) only [fget_ne]; exact d9, by simp (disch := omega) only [fget_ne]; exact d10, fun j hj => by simp (disch := omega) only [fget_ne]⟩
            rintro fr5 hx ⟨hhx, is5, c9, c10, hk5⟩
            have hhx := hhx.symm
            subst hhx
            have c1 := (hk5 1 (by omega)).trans d1
            have c5 := (hk5 5 (by omega)).trans d5
            have c7 := (hk5 7 (by omega)).trans d7
            have c8 := (hk5 8 (by omega)).trans d8
            rw [d_seq]
            simp -dsimp (maxSteps := 1000000) (disch := first | omega | (simp only [new_n, put_n]; omega) | decide +kernel | (repeat first | rw [new_n] | rw [put_n])) only [wpR, wpT, Nat.reduceEqDiff, reduceIte, Nat.reduceLT, Nat.reduceLeDiff, Nat.reduceAdd, Nat.reduceMul, Nat.reduceBEq, Int.reduceToNat, zc32, fa25_0, ld5, cv5_3, fa25_1, bv32, pl32_0, st32, fa32_0, ld3, fa25_2, ld22, cv3_116, fa25_3, ld23, es23, ar137, fa32_1, ld30, bv52, pl52_0, pl52_1, bs30, st30, ld32, ln23, ba30_30, c1]
            rw [d_seq]
            refine cut (fun fr' h' => h' = hh ∧ (∃ x y : Nat, fget fr' 11 = some (KI x) ∧ fget fr' 12 = some (KI y)) ∧ fget fr' 9 = some (.bool is5) ∧ fget fr' 10 = some (KI i) ∧ ∀ j, j < 9 → fget fr' j = fget fr5 j) ?_ ?_
            · have ex : ((x1 : Int) % (n : Int)) = ((x1 % n : Nat) : Int) := by omega
              have ey : ((y1 : Int) % (n : Int)) = ((y1 % n : Nat) : Int) := by omega
              simp -dsimp (maxSteps := 1000000) (disch := first | omega | (simp only [new_n, put_n]; omega) | decide +kernel | (repeat first | rw [new_n] | rw [put_n])) only [wpS, wpT, Nat.reduceEqDiff, reduceIte, Nat.reduceLT, Nat.reduceLeDiff, Nat.reduceAdd, Nat.reduceMul, Nat.reduceBEq, Int.reduceToNat, zc32, fa25_0, ld5, cv5_3, fa25_1, bv32, pl32_0, st32, fa32_0, ld3, fa25_2, ld22, cv3_116, fa25_3, ld23, es23, ar137, fa32_1, ld30, bv52, pl52_0, pl52_1, bs30, st30, ld32, ln23, ba30_30, c1, c5, c7, c8, c9, c10, rd, rg, hmh.len sl23, ix, ia, ib, la, lb, ex, ey]
              exact ⟨rfl, ⟨x1 % n, y1 % n, rfl, rfl⟩, by simp (disch := omega) only [fget_ne]; exact c9, by simp (disch := omega) only [fget_ne]; exact c10, fun j hj => by simp (disch := omega) only [fget_ne]⟩
            rintro fr6 hx ⟨hhx, ⟨x6, y6, k11, k12⟩, k9, k10, hk6⟩
            have hhx := hhx.symm
            subst hhx
            have k7 := (hk6 7 (by omega)).trans c7
            have k8 := (hk6 8 (by omega)).trans c8
            refine cutQ (fun fr' h' => h' = hh ∧ (∃ is : Bool, fget fr' 9 = some (.bool is)) ∧ fget fr' 10 = some (KI i) ∧ ∀ j, j < 9 → fget fr' j = fget fr6 j) ?_ ?_
            · cases is5
              · cases q1 : ((x6 : Int) == (a : Int)) <;> cases q2 : ((y6 : Int) == (b : Int)) <;> cases q3 : ((x6 : Int) == (b : Int)) <;> cases q4 : ((y6 : Int) == (a : Int)) <;> (
                  simp -dsimp (maxSteps := 1000000) (disch := first | omega | (simp only [new_n, put_n]; omega) | decide +kernel | (repeat first | rw [new_n] | rw [put_n])) only [wpS, wpT, Nat.reduceEqDiff, reduceIte, Nat.reduceLT, Nat.reduceLeDiff, Nat.reduceAdd, Nat.reduceMul, Nat.reduceBEq, Int.reduceToNat, zc32, fa25_0, ld5, cv5_3, fa25_1, bv32, pl32_0, st32, fa32_0, ld3, fa25_2, ld22, cv3_116, fa25_3, ld23, es23, ar137, fa32_1, ld30, bv52, pl52_0, pl52_1, bs30, st30, ld32, ln23, ba30_30, k7, k8, k9, k11, k12, q1, q2, q3, q4]
                  exact ⟨rfl, ⟨_, rfl⟩, by simp (disch := omega) only [fget_ne]; exact k10, fun j hj => by simp (disch := omega) only [fget_ne]⟩)
              · simp -dsimp (maxSteps := 1000000) (disch := first | omega | (simp only [new_n, put_n]; omega) | decide +kernel | (repeat first | rw [new_n] | rw [put_n])) only [wpS, wpT, Nat.reduceEqDiff, reduceIte, Nat.reduceLT, Nat.reduceLeDiff, Nat.reduceAdd, Nat.reduceMul, Nat.reduceBEq, Int.reduceToNat, zc32, fa25_0, ld5, cv5_3, fa25_1, bv32, pl32_0, st32, fa32_0, ld3, fa25_2, ld22, cv3_116, fa25_3, ld23, es23, ar137, fa32_1, ld30, bv52, pl52_0, pl52_1, bs30, st30, ld32, ln23, ba30_30, k7, k8, k9, k11, k12]
                exact ⟨rfl, ⟨_, rfl⟩, by simp (disch := omega) only [fget_ne]; exact k10, fun j hj => by simp (disch := omega) only [fget_ne]⟩
            rintro fr7 hx ⟨hhx, ⟨is7, l9⟩, l10, hk7⟩
            have hhx := hhx.symm
            subst hhx
            simp -dsimp (maxSteps := 1000000) (disch := first | omega | (simp only [new_n, put_n]; omega) | decide +kernel | (repeat first | rw [new_n] | rw [put_n])) only [wpS, wpT, Nat.reduceEqDiff, reduceIte, Nat.reduceLT, Nat.reduceLeDiff, Nat.reduceAdd, Nat.reduceMul, Nat.reduceBEq, Int.reduceToNat, zc32, fa25_0, ld5, cv5_3, fa25_1, bv32, pl32_0, st32, fa32_0, ld3, fa25_2, ld22, cv3_116, fa25_3, ld23, es23, ar137, fa32_1, ld30, bv52, pl52_0, pl52_1, bs30, st30, ld32, ln23, ba30_30, l10]
            refine ⟨d - 1, by omega, rfl, i + 1, is7, by omega, by simp (disch := omega) only [fget_ne]; exact l9, by simp, fun j hj => ?_⟩
            simp (disch := omega) only [fget_ne]
            rw [hk7 j hj, hk6 j hj, hk5 j hj, hk j hj]
          · simp -dsimp (maxSteps := 1000000) (disch := first | omega | (simp only [new_n, put_n]; omega) | decide +kernel | (repeat first | rw [new_n] | rw [put_n])) only [wpS, wpT, Nat.reduceEqDiff, reduceIte, Nat.reduceLT, Nat.reduceLeDiff, Nat.reduceAdd, Nat.reduceMul, Nat.reduceBEq, Int.reduceToNat, zc32, fa25_0, ld5, cv5_3, fa25_1, bv32, pl32_0, st32, fa32_0, ld3, fa25_2, ld22, cv3_116, fa25_3, ld23, es23, ar137, fa32_1, ld30, bv52, pl52_0, pl52_1, bs30, st30, ld32, ln23, ba30_30, d1, d9, d10, rd, hmh.len sl23]
            exact ⟨rfl, ⟨is4, by simp (disch := omega) only [fget_ne]; exact d9⟩, fun j hj => by simp (disch := omega) only [fget_ne]; exact hk j hj⟩
        · simp -dsimp (maxSteps := 1000000) (disch := first | omega | (simp only [new_n, put_n]; omega) | decide +kernel | (repeat first | rw [new_n] | rw [put_n])) only [wpS, wpT, Nat.reduceEqDiff, reduceIte, Nat.reduceLT, Nat.reduceLeDiff, Nat.reduceAdd, Nat.reduceMul, Nat.reduceBEq, Int.reduceToNat, zc32, fa25_0, ld5, cv5_3, fa25_1, bv32, pl32_0, st32, fa32_0, ld3, fa25_2, ld22, cv3_116, fa25_3, ld23, es23, ar137, fa32_1, ld30, bv52, pl52_0, pl52_1, bs30, st30, ld32, ln23, ba30_30, d1, d9, d10, rd, hmh.len sl23]
          exact ⟨rfl, ⟨is4, by simp (disch := omega) only [fget_ne]; exact d9⟩, fun j hj => by simp (disch := omega) only [fget_ne]; exact hk j hj⟩
      rintro fr5 hx ⟨hhx, ⟨is5, f9⟩, hk⟩
      have hhx := hhx.symm
      subst hhx
      have f1 := (hk 1 (by omega)).trans e1
      have f2 := (hk 2 (by omega)).trans e2
      have f3 := (hk 3 (by omega)).trans e3
      have f5 := (hk 5 (by omega)).trans e5
      have f6 := (hk 6 (by omega)).trans e6
      have f7 := (hk 7 (by omega)).trans e7
      have f8 := (hk 8 (by omega)).trans e8
      clear e1 e2 e3 e5 e6 e7 e8 e9 hk
      have rg2 : hh.row (2 * (h.n + 2)) = some [KI n, out] := rg
      simp -dsimp (maxSteps := 1000000) (disch := first | omega | (simp only [new_n, put_n]; omega) | decide +kernel | (repeat first | rw [new_n] | rw [put_n])) only [wpS, wpT, Nat.reduceEqDiff, reduceIte, Nat.reduceLT, Nat.reduceLeDiff, Nat.reduceAdd, Nat.reduceMul, Nat.reduceBEq, Int.reduceToNat, zc32, fa25_0, ld5, cv5_3, fa25_1, bv32, pl32_0, st32, fa32_0, ld3, fa25_2, ld22, cv3_116, fa25_3, ld23, es23, ar137, fa32_1, ld30, bv52, pl52_0, pl52_1, bs30, st30, ld32, ln23, ba30_30, f9]
      refine bq_intro ?_ ?_ <;> intro his
      · subst his
        have hT2 : h.n + 2 < hh.n := hG.lg
        have hT1 : T.n ≤ hh.n := hG.e.n
        obtain ⟨out', h5, hap, hA5, hG5, hE5⟩ := hG.acc.appN (P := Proofs.Tryd.prog) (t := 30) ap30 (m := 1) (new := [KI a, KI b]) (by omega) rfl rfl (by omega) (by omega) hG.e (by omega)
        have hap' : append Proofs.Tryd.prog (hh.new (.cells [KI a, KI b] 2 none)) 30 out (.slice (some ⟨2 * hh.n, 0, none⟩) 1 3) = some (out', h5) := hap
        have gg5 : h5.ext.get (h.n + 2) = some (.cells [KI n, out] 0 none) := hG5.var hT2 hG.gg
        have h5n := hG5.n
        simp -dsimp (maxSteps := 1000000) (disch := first | omega | (simp only [new_n, put_n]; omega) | decide +kernel | (repeat first | rw [new_n] | rw [put_n])) only [wpS, wpT, Nat.reduceEqDiff, reduceIte, Nat.reduceLT, Nat.reduceLeDiff, Nat.reduceAdd, Nat.reduceMul, Nat.reduceBEq, Int.reduceToNat, zc32, fa25_0, ld5, cv5_3, fa25_1, bv32, pl32_0, st32, fa32_0, ld3, fa25_2, ld22, cv3_116, fa25_3, ld23, es23, ar137, fa32_1, ld30, bv52, pl52_0, pl52_1, bs30, st30, ld32, ln23, ba30_30, f1, f2, f3, f5, f6, f7, f8, f9, rg2, hap', gg5, hA5.sl.cells, hA5.sl.cok]
        refine ⟨m2 - 1, by omega, b + 1, c3, E ++ [(a, b)], out', by omega, by omega, ⟨hE5.put (by omega) _, get_put_same _ _ rfl, by simp only [put_n]; omega, hG.hg, ?_⟩, hB.app hab (by omega), by simp only [List.length_append, List.length_singleton]; omega, by omega, by simp [f1], by simp [f2], by simp [f3], by simp [f5], by simp [f6], by simp [f7], by simp⟩
        rw [castE_app, eCells_app]
        simpa using hA5.put gg5 _
      · subst his
        simp -dsimp (maxSteps := 1000000) (disch := first | omega | (simp only [new_n, put_n]; omega) | decide +kernel | (repeat first | rw [new_n] | rw [put_n])) only [wpS, wpT, Nat.reduceEqDiff, reduceIte, Nat.reduceLT, Nat.reduceLeDiff, Nat.reduceAdd, Nat.reduceMul, Nat.reduceBEq, Int.reduceToNat, zc32, fa25_0, ld5, cv5_3, fa25_1, bv32, pl32_0, st32, fa32_0, ld3, fa25_2, ld22, cv3_116, fa25_3, ld23, es23, ar137, fa32_1, ld30, bv52, pl52_0, pl52_1, bs30, st30, ld32, ln23, ba30_30, f8]
        refine ⟨m2 - 1, by omega, b + 1, c3, E, out, by omega, by omega, hG, hB.skip (by omega), by omega, by omega, by simp [f1], by simp [f2], by simp [f3], by simp [f5], by simp [f6], by simp [f7], by simp⟩
    · simp -dsimp (maxSteps := 1000000) (disch := first | omega | (simp only [new_n, put_n]; omega) | decide +kernel | (repeat first | rw [new_n] | rw [put_n])) only [wpS, wpT, Nat.reduceEqDiff, reduceIte, Nat.reduceLT, Nat.reduceLeDiff, Nat.reduceAdd, Nat.reduceMul, Nat.reduceBEq, Int.reduceToNat, zc32, fa25_0, ld5, cv5_3, fa25_1, bv32, pl32_0, st32, fa32_0, ld3, fa25_2, ld22, cv3_116, fa25_3, ld23, es23, ar137, fa32_1, ld30, bv52, pl52_0, pl52_1, bs30, st30, ld32, ln23, ba30_30, f7]
      refine ⟨m - 1, by omega, a + 1, c, E, out, by omega, hG, ⟨hB.1, by have := hB.2; omega⟩, by omega, by omega, by simp [f1], by simp [f2], by simp [f3], by simp [f5], by simp [f6], by simp⟩
  · have hgr : hh.ext.get (h.n + 1) = some (.cells [.int .i64 0, .slice none 0 0] 0 none) := by rw [hG.e.get _ (by omega)]; exact gT
    simp -dsimp (maxSteps := 1000000) (disch := first | omega | (simp only [new_n, put_n]; omega) | decide +kernel | (repeat first | rw [new_n] | rw [put_n])) only [wpS, wpT, Nat.reduceEqDiff, reduceIte, Nat.reduceLT, Nat.reduceLeDiff, Nat.reduceAdd, Nat.reduceMul, Nat.reduceBEq, Int.reduceToNat, zc32, fa25_0, ld5, cv5_3, fa25_1, bv32, pl32_0, st32, fa32_0, ld3, fa25_2, ld22, cv3_116, fa25_3, ld23, es23, ar137, fa32_1, ld30, bv52, pl52_0, pl52_1, bs30, st30, ld32, ln23, ba30_30, f2, f5, rg, hgr, List.drop_zero, take2, hG.acc.sl.cok]
    refine ⟨(eT.trans hG.e).put (by omega) _, E, out, rfl, (hG.acc.sl).keep ((Keep.refl hh).put hgr _), ?_⟩
    rw [graphErr, if_pos ⟨by omega, by omega, by simp only [castE, List.length_map]; omega, hB.1⟩]
end Go.Id

/-! Contracts: small functions. -/
namespace Go.Id
open Go

theorem has_ok (s : Nat) (i : Nat) (h : IH) (hs : s < 18446744073709551616) (hi : i < 9223372036854775808) :
    WV Proofs.Tryd.prog (.func (.func 117) #[] #[]) [K64 s, KI i] h fun v h' => v = .bool (s.testBit i) ∧ h' = h := by
  refine enter (nt := 11) (rs := [.tmp 4]) Proofs.Tryd.func117 rfl rfl rfl (by simp) ?_
  have := nshr_le s i
  simp -dsimp (maxSteps := 1000000) (disch := first | omega | (simp only [new_n, put_n]; omega) | decide +kernel | (repeat first | rw [new_n] | rw [put_n])) only [wpS, wpT, Nat.reduceEqDiff, reduceIte, Nat.reduceLT, Nat.reduceLeDiff, Nat.reduceAdd, Nat.reduceMul, Nat.reduceBEq, Int.reduceToNat, cv3_116, bit_eq_one]

def weightTo (ws : List Int) (s : Nat) : Nat → Int
  | 0 => 0
  | n + 1 => weightTo ws s n + if s.testBit n then ws.getD n 0 else 0
theorem weightTo_bd (ws : List Int) (s : Nat) (hw : ∀ x ∈ ws, 0 ≤ x ∧ x ≤ 1000000000) : ∀ n, 0 ≤ weightTo ws s n ∧ weightTo ws s n ≤ n * 1000000000
  | 0 => by simp [weightTo]
  | n + 1 => by
    have ih := weightTo_bd ws s hw n
    have : 0 ≤ ws.getD n 0 ∧ ws.getD n 0 ≤ 1000000000 := by
      rw [List.getD_eq_getElem?_getD]
      cases hx : ws[n]? with
      | none => simp
      | some x => simpa using hw x (List.mem_of_getElem? hx)
    simp only [weightTo]
    split <;> omega

theorem weight_ok (ws : List Int) (s : Nat) (p lo hg d : Value) (h : IH) (hs : s < 18446744073709551616) (hl : ws.length < 1000) (hw : ∀ x ∈ ws, 0 ≤ x ∧ x ≤ 1000000000) (hp : SlOf h 1 p ws.length (ws.map KI)) :
    WV Proofs.Tryd.prog (.func (.func 107) #[] #[]) [.agg #[p, lo, hg, d], K64 s] h fun v h' => v = KI (weightTo ws s ws.length) ∧ Ext h h' := by
  refine enter (nt := 25) (rs := [.tmp 4]) Proofs.Tryd.func107 rfl rfl rfl (by simp) ?_
  simp -dsimp (maxSteps := 1000000) (disch := first | omega | (simp only [new_n, put_n]; omega) | decide +kernel | (repeat first | rw [new_n] | rw [put_n])) only [wpS, wpT, Nat.reduceEqDiff, reduceIte, Nat.reduceLT, Nat.reduceLeDiff, Nat.reduceAdd, Nat.reduceMul, Nat.reduceBEq, Int.reduceToNat, fa35_0, ld33, es33, ld3, ln33]
  refine loop (fun m fr h1 => ∃ i : Nat, i + m = ws.length ∧ fget fr 5 = some (KI (weightTo ws s i)) ∧ fget fr 6 = some (KI i) ∧ fget fr 2 = some (ptr (2 * h.n) 0) ∧ fget fr 1 = some (K64 s) ∧ Ext (h.new (.cells [p, lo, hg, d] 0 none)) h1) ws.length ⟨0, by simp, by simp [weightTo], by simp, by simp, by simp, by simp⟩ ?_
  rintro m fr h1 ⟨i, him, f5, f6, f2, f1, hE⟩
  have hr : h1.row (2 * h.n) = some [p, lo, hg, d] := by rw [hE.row (by simp)]; exact row_new_same _ _ _ _ rfl
  have hb := weightTo_bd ws s hw i
  simp -dsimp (maxSteps := 1000000) (disch := first | omega | (simp only [new_n, put_n]; omega) | decide +kernel | (repeat first | rw [new_n] | rw [put_n])) only [wpS, wpT, Nat.reduceEqDiff, reduceIte, Nat.reduceLT, Nat.reduceLeDiff, Nat.reduceAdd, Nat.reduceMul, Nat.reduceBEq, Int.reduceToNat, fa35_0, ld33, es33, ld3, ln33, f5, f6, f2, f1, hr, hp.len sl33]
  refine bq_intro (fun hc => ?_) (fun hc => ?_) <;> simp at hc
  · obtain ⟨x, hx⟩ : ∃ x, ws[i]? = some x := ⟨ws[i], List.getElem?_eq_getElem hc⟩
    have hx2 := hw x (List.mem_of_getElem? hx)
    simp -dsimp (maxSteps := 1000000) (disch := first | omega | (simp only [new_n, put_n]; omega) | decide +kernel | (repeat first | rw [new_n] | rw [put_n])) only [wpS, wpT, Nat.reduceEqDiff, reduceIte, Nat.reduceLT, Nat.reduceLeDiff, Nat.reduceAdd, Nat.reduceMul, Nat.reduceBEq, Int.reduceToNat, fa35_0, ld33, es33, ld3, ln33, f6, f1]
    refine call (has_ok s i h1 hs (by omega)) ?_
    rintro v h2 ⟨rfl, rfl⟩
    simp -dsimp (maxSteps := 1000000) (disch := first | omega | (simp only [new_n, put_n]; omega) | decide +kernel | (repeat first | rw [new_n] | rw [put_n])) only [wpS, wpT, Nat.reduceEqDiff, reduceIte, Nat.reduceLT, Nat.reduceLeDiff, Nat.reduceAdd, Nat.reduceMul, Nat.reduceBEq, Int.reduceToNat, fa35_0, ld33, es33, ld3, ln33, f5, f6, f2, f1]
    refine bq_intro (fun hb1 => ?_) (fun hb1 => ?_)
    · simp -dsimp (maxSteps := 1000000) (disch := first | omega | (simp only [new_n, put_n]; omega) | decide +kernel | (repeat first | rw [new_n] | rw [put_n])) only [wpS, wpT, Nat.reduceEqDiff, reduceIte, Nat.reduceLT, Nat.reduceLeDiff, Nat.reduceAdd, Nat.reduceMul, Nat.reduceBEq, Int.reduceToNat, fa35_0, ld33, es33, ld3, ln33, f5, f6, f2, f1, hr, hp.idx es33 hc, hp.ld ((Ext.refl h).new _ |>.trans hE).keep (P := Proofs.Tryd.prog) (t := 3) (c := i) (by simpa using hc) ag3, List.getElem?_map, hx]
      refine ⟨m - 1, by omega, i + 1, by omega, ?_, by simp, by simp [f2], by simp [f1], hE⟩
      simp [weightTo, hb1, hx]
    · simp -dsimp (maxSteps := 1000000) (disch := first | omega | (simp only [new_n, put_n]; omega) | decide +kernel | (repeat first | rw [new_n] | rw [put_n])) only [wpS, wpT, Nat.reduceEqDiff, reduceIte, Nat.reduceLT, Nat.reduceLeDiff, Nat.reduceAdd, Nat.reduceMul, Nat.reduceBEq, Int.reduceToNat, fa35_0, ld33, es33, ld3, ln33, f5, f6, f2, f1]
      refine ⟨m - 1, by omega, i + 1, by omega, ?_, by simp, by simp [f2], by simp [f1], hE⟩
      simp [weightTo, hb1, f5]
  · obtain rfl : i = ws.length := by omega
    simp -dsimp (maxSteps := 1000000) (disch := first | omega | (simp only [new_n, put_n]; omega) | decide +kernel | (repeat first | rw [new_n] | rw [put_n])) only [wpS, wpT, Nat.reduceEqDiff, reduceIte, Nat.reduceLT, Nat.reduceLeDiff, Nat.reduceAdd, Nat.reduceMul, Nat.reduceBEq, Int.reduceToNat, fa35_0, ld33, es33, ld3, ln33, f5, f6, f2, f1]
    exact ((Ext.refl h).new _).trans hE
end Go.Id
