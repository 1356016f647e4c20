/-
  EnumerateParts: for every draft the law returns true, and the draft reads as it did. Conditions: none but the row's own (the listed tables of math/bits hold what the program's text lays into them).
-/
import Derived.Test.YtcmfdbjgimekbaaDoorEnumeratePartsAq
import Derived.Test.YtcmfdbjgimekbaaDoorEnumeratePartsAr
import Derived.Test.YtcmfdbjgimekbaaDoorEnumeratePartsAo
set_option linter.unusedVariables false
set_option linter.unusedSimpArgs false
set_option linter.defProp false
set_option linter.deprecated false
/-! The statement EnumerateParts, on the ideal machine. -/
namespace Go.Id
open Go

/-- The types' facts. -/
def tyP := And.intro @ld28 (And.intro @zc32 (And.intro @zc35 (And.intro @st32 (And.intro @st35 (And.intro @ld32 (And.intro @ld35 (And.intro @zc59 (And.intro @st59 (And.intro @es38 (And.intro @ld47 (And.intro @fa32_0 (And.intro @ld3 (And.intro @fa35_3 (And.intro @bn4 (And.intro @fa35_0 (And.intro @st33 (And.intro @st3 (And.intro @es33 (And.intro @ld33 (And.intro @bs33 (And.intro @ld59 (And.intro @ln38 (And.intro @ln33 (@ba33_33))))))))))))))))))))))))
/-- What a district of node 0 adds. -/
def partG (F : Nat → Bool) (n j s : Nat) : Nat := if s % 2 = 1 then ways F j (nclr (2 ^ n - 1) s) else 0
def partS (F : Nat → Bool) (n j i : Nat) : Nat := (((distL F (2 ^ n)).take i).map (partG F n j)).sum
theorem partS_zero (F : Nat → Bool) (n j : Nat) : partS F n j 0 = 0 := rfl
theorem partS_succ {F : Nat → Bool} {n j i s : Nat} (h : (distL F (2 ^ n))[i]? = some s) : partS F n j (i + 1) = partS F n j i + partG F n j s := by
  unfold partS
  rw [List.take_add_one, h, List.map_append, List.sum_append]; simp
theorem partS_all {F : Nat → Bool} {n j i : Nat} (hn0 : 0 < n) (hn : n ≤ 64) (h : (distL F (2 ^ n)).length ≤ i) : partS F n j i = ways F (j + 1) (2 ^ n - 1) := by
  unfold partS
  rw [List.take_of_length_le h, dist_sum, parts_sum F hn0 hn]
  rfl
theorem take_sum_le (f : Nat → Nat) : ∀ (l : List Nat) (i : Nat), ((l.take i).map f).sum ≤ (l.map f).sum
  | [], i => by simp
  | x :: l, 0 => by simp
  | x :: l, i + 1 => by
    have := take_sum_le f l i
    simp only [List.take_succ_cons, List.map_cons, List.sum_cons]; omega
theorem partS_le (F : Nat → Bool) {n j : Nat} (hn0 : 0 < n) (hn : n ≤ 12) (hj : j + 1 ≤ 8) (i : Nat) : partS F n j i ≤ 68719476736 := by
  have h1 := take_sum_le (partG F n j) (distL F (2 ^ n)) i
  have h2 := partS_all (F := F) (n := n) (j := j) hn0 (by omega) (Nat.le_refl _)
  rw [partS, List.take_length] at h2
  have hp : 0 < 2 ^ n := Nat.pow_pos (by omega)
  have h3 := ways_small F hn hj (show 2 ^ n - 1 < 2 ^ n by omega)
  unfold partS; omega
/-- The law's numbers. -/
structure PQ where
  (n k : Nat) (E : List (Nat × Nat)) (v w : Value) (ws : List Int) (lo hi : Int) (x : Value) (b3 b4 b7 b9 : Nat)
noncomputable def PQ.F (q : PQ) : Nat → Bool := fitsB q.E q.ws q.lo q.hi
noncomputable def PQ.L (q : PQ) : List Nat := distL q.F (2 ^ q.n)
/-- The law's memory. -/
structure PM (q : PQ) (hh : IH) (S : Nat) : Prop where
  b : BaseT hh
  a : ArgsAt hh q.n q.E q.v q.w q.ws q.lo q.hi q.k
  sx : SlOf hh 1 q.x q.L.length (q.L.map fun s => K64 s)
  g3 : hh.ext.get q.b3 = some (.cells [KI q.n, q.v] 0 none)
  g4 : hh.ext.get q.b4 = some (.cells [q.w, KI q.lo, KI q.hi, KI q.k] 0 none)
  g7 : hh.ext.get q.b7 = some (.cells (wdC (wideN (totalP q.n q.E q.ws q.lo q.hi q.k))) 0 none)
  g9 : hh.ext.get q.b9 = some (.cells (wdC (wideN (S : Int))) 0 none)
  l3 : q.b3 < q.b4
  l4 : q.b4 < q.b7
  l7 : q.b7 < q.b9
  l9 : q.b9 < hh.n
theorem PM.ext {q : PQ} {hh h2 : IH} {S : Nat} (p : PM q hh S) (e : Ext hh h2) : PM q h2 S :=
  have := p.l3; have := p.l4; have := p.l7; have := p.l9
  ⟨p.b.ext e, p.a.keep e.keep, p.sx.ext e, (e.get _ (by omega)).trans p.g3, (e.get _ (by omega)).trans p.g4, (e.get _ (by omega)).trans p.g7, (e.get _ (by omega)).trans p.g9, p.l3, p.l4, p.l7, Nat.lt_of_lt_of_le p.l9 e.n⟩
theorem PM.set {q : PQ} {hh : IH} {S : Nat} (p : PM q hh S) (T : Nat) : PM q (hh.put q.b9 (.cells (wdC (wideN (T : Int))) 0 none)) T :=
  have := p.l3; have := p.l4; have := p.l7
  have k := (Keep.refl hh).put p.g9 (.cells (wdC (wideN (T : Int))) 0 none)
  ⟨p.b, p.a.keep k, p.sx.keep k, by rw [get_put_old _ _ (by omega)]; exact p.g3, by rw [get_put_old _ _ (by omega)]; exact p.g4, by rw [get_put_old _ _ (by omega)]; exact p.g7, get_put_same _ _ rfl, p.l3, p.l4, p.l7, p.l9⟩
theorem PM.put {q : PQ} {hh : IH} {S : Nat} (p : PM q hh S) {k : Nat} {c : List Value} {f : Option Nat} (hk : hh.ext.get k = some (.cells c 0 f)) (hq : q.b9 < k) (o : IObj) : PM q (hh.put k o) S :=
  have := p.l3; have := p.l4; have := p.l7
  have e := (Keep.refl hh).put hk o
  ⟨p.b, p.a.keep e, p.sx.keep e, by rw [get_put_old _ _ (by omega)]; exact p.g3, by rw [get_put_old _ _ (by omega)]; exact p.g4, by rw [get_put_old _ _ (by omega)]; exact p.g7, by rw [get_put_old _ _ (by omega)]; exact p.g9, p.l3, p.l4, p.l7, p.l9⟩
structure PF (q : PQ) (fr : Fr) (i : Nat) : Prop where
  f3 : fget fr 3 = some (ptr (2 * q.b3) 0)
  f4 : fget fr 4 = some (ptr (2 * q.b4) 0)
  f7 : fget fr 7 = some (ptr (2 * q.b7) 0)
  f9 : fget fr 9 = some (ptr (2 * q.b9) 0)
  f50 : fget fr 50 = some q.x
  f51 : fget fr 51 = some (KI q.L.length)
  f52 : fget fr 52 = some (KI i)
theorem hspl (n : Nat) : IH.splice [.int .u64 0, .int .u64 0, .int .u64 0, .int .u64 0, .int .u64 0, .int .u64 0, .int .u64 0, .int .u64 0] 0 (wdC n) = wdC n := splice_all (by rw [wdC_len]; rfl)
set_option maxHeartbeats 8000000 in
theorem parts_ideal {h : IH} (hB : BaseT h) {x : Value} (hx : DraftAt h x) : WV Proofs.Tryd.prog (.func (.func 6) #[] #[]) [x] h fun r h' => r = .bool true := by
  obtain ⟨cs, rfl, hcl, hca⟩ := hx.cells
  have tk : List.take 7 (List.drop 0 cs) = cs := by rw [List.drop_zero, List.take_of_length_le (by omega)]
  refine enter (nt := 132) (rs := [.tmp 2]) Proofs.Tryd.func6 rfl rfl rfl (by simp) ?_
  simp -dsimp (maxSteps := 1000000) (disch := first | omega | (simp only [new_n, put_n]; omega) | decide +kernel | (repeat first | rw [new_n] | rw [put_n])) only [wpS, wpT, Nat.reduceEqDiff, reduceIte, Nat.reduceLT, Nat.reduceLeDiff, Nat.reduceAdd, Nat.reduceMul, Nat.reduceBEq, Int.reduceToNat, tyP]
  have e0 : Ext h (h.new (.cells cs 0 none)) := (Ext.refl h).new _
  refine call (works_ok (hB.ext e0)) ?_
  rintro _ h1 ⟨hE1, rfl⟩
  have r0 : h1.row (2 * h.n) = some cs := by rw [hE1.row (.inr (by simp only [new_n]; omega)), row_even]; simp only [IH.cells]; simp (disch := first | omega | (simp only [new_n, put_n]; omega) | (repeat first | rw [new_n] | rw [put_n])) only [get_new_same, get_new_old, get_put_same, get_put_old]
  simp -dsimp (maxSteps := 1000000) (disch := first | omega | (simp only [new_n, put_n]; omega) | decide +kernel | (repeat first | rw [new_n] | rw [put_n])) only [wpS, wpT, Nat.reduceEqDiff, reduceIte, Nat.reduceLT, Nat.reduceLeDiff, Nat.reduceAdd, Nat.reduceMul, Nat.reduceBEq, Int.reduceToNat, tyP, r0, hcl, tk]
  have e1 := e0.trans hE1
  refine call (problem_ok (hx.ext e1)) ?_
  rintro _ h2 ⟨hE2, n, k, E, v, w, ws, lo, hi, rfl, a, hk4, hn9, hws⟩
  obtain ⟨hG, hn0, hn12, hV, hlen, hwl, hwb, hd1, hd2, hlo, hlohi⟩ := enErr_ok a.ok
  have hp12 : 2 ^ n ≤ 2 ^ 12 := Nat.pow_le_pow_right (by omega) hn12
  simp -dsimp (maxSteps := 1000000) (disch := first | omega | (simp only [new_n, put_n]; omega) | decide +kernel | (repeat first | rw [new_n] | rw [put_n])) only [wpS, wpT, Nat.reduceEqDiff, reduceIte, Nat.reduceLT, Nat.reduceLeDiff, Nat.reduceAdd, Nat.reduceMul, Nat.reduceBEq, Int.reduceToNat, tyP, a.sE.cells, a.sE.cok, a.sW.cells, a.sW.cok, List.drop_zero]
  have eT : Ext h2 ((((h2.new (.cells [.int .i64 0, .slice none 0 0] 0 none)).new (.cells [.slice none 0 0, .int .i64 0, .int .i64 0, .int .i64 0] 0 none)).put h2.n (.cells [KI n, v] 0 none)).put (h2.n + 1) (.cells [w, KI lo, KI hi, KI k] 0 none)) := ((((Ext.refl h2).new _).new _).put (Nat.le_refl _) _).put (by omega) _
  have gg : ((((h2.new (.cells [.int .i64 0, .slice none 0 0] 0 none)).new (.cells [.slice none 0 0, .int .i64 0, .int .i64 0, .int .i64 0] 0 none)).put h2.n (.cells [KI n, v] 0 none)).put (h2.n + 1) (.cells [w, KI lo, KI hi, KI k] 0 none)).ext.get h2.n = some (.cells [KI n, v] 0 none) := by simp (disch := first | omega | (simp only [new_n, put_n]; omega) | (repeat first | rw [new_n] | rw [put_n])) only [get_new_same, get_new_old, get_put_same, get_put_old]
  have gb : ((((h2.new (.cells [.int .i64 0, .slice none 0 0] 0 none)).new (.cells [.slice none 0 0, .int .i64 0, .int .i64 0, .int .i64 0] 0 none)).put h2.n (.cells [KI n, v] 0 none)).put (h2.n + 1) (.cells [w, KI lo, KI hi, KI k] 0 none)).ext.get (h2.n + 1) = some (.cells [w, KI lo, KI hi, KI k] 0 none) := by simp (disch := first | omega | (simp only [new_n, put_n]; omega) | (repeat first | rw [new_n] | rw [put_n])) only [get_new_same, get_new_old, get_put_same, get_put_old]
  have nT : h2.n + 2 ≤ ((((h2.new (.cells [.int .i64 0, .slice none 0 0] 0 none)).new (.cells [.slice none 0 0, .int .i64 0, .int .i64 0, .int .i64 0] 0 none)).put h2.n (.cells [KI n, v] 0 none)).put (h2.n + 1) (.cells [w, KI lo, KI hi, KI k] 0 none)).n := by simp only [new_n, put_n]; omega
  generalize ((((h2.new (.cells [.int .i64 0, .slice none 0 0] 0 none)).new (.cells [.slice none 0 0, .int .i64 0, .int .i64 0, .int .i64 0] 0 none)).put h2.n (.cells [KI n, v] 0 none)).put (h2.n + 1) (.cells [w, KI lo, KI hi, KI k] 0 none)) = T at *
  have rg : T.row (2 * h2.n) = some [KI n, v] := by rw [row_even]; simp only [IH.cells, gg]
  have rb : T.row (2 * (h2.n + 1)) = some [w, KI lo, KI hi, KI k] := by rw [row_even]; simp only [IH.cells, gb]
  have aT := a.keep eT.keep
  have bT := (hB.ext e1).ext (hE2.trans eT)
  have tk2 : List.take 2 [KI n, v] = [KI n, v] := rfl
  refine call (districts_ok bT aT.sE aT.sW aT.hhi aT.ok) ?_
  rintro _ h3 ⟨hE3, x, rfl, hx⟩
  have r3g : h3.row (2 * h2.n) = some [KI n, v] := by rw [hE3.row (.inr (by omega))]; exact rg
  have r3b : h3.row (2 * (h2.n + 1)) = some [w, KI lo, KI hi, KI k] := by rw [hE3.row (.inr (by omega))]; exact rb
  simp -dsimp (maxSteps := 1000000) (disch := first | omega | (simp only [new_n, put_n]; omega) | decide +kernel | (repeat first | rw [new_n] | rw [put_n])) only [wpS, wpT, Nat.reduceEqDiff, reduceIte, Nat.reduceLT, Nat.reduceLeDiff, Nat.reduceAdd, Nat.reduceMul, Nat.reduceBEq, Int.reduceToNat, tyP, r3g, r3b, List.drop_zero, tk2]
  refine call (count_ok (bT.ext hE3) (aT.keep hE3.keep)) ?_
  rintro _ h4 ⟨hE4, rfl⟩
  simp -dsimp (maxSteps := 1000000) (disch := first | omega | (simp only [new_n, put_n]; omega) | decide +kernel | (repeat first | rw [new_n] | rw [put_n])) only [wpS, wpT, Nat.reduceEqDiff, reduceIte, Nat.reduceLT, Nat.reduceLeDiff, Nat.reduceAdd, Nat.reduceMul, Nat.reduceBEq, Int.reduceToNat, tyP, wdV_form, wdC_len, wdC_all, hspl, wd_take]
  refine call (refOf_ok 0 (by decide)) ?_
  rintro _ h5 ⟨hE5, rfl⟩
  simp -dsimp (maxSteps := 1000000) (disch := first | omega | (simp only [new_n, put_n]; omega) | decide +kernel | (repeat first | rw [new_n] | rw [put_n])) only [wpS, wpT, Nat.reduceEqDiff, reduceIte, Nat.reduceLT, Nat.reduceLeDiff, Nat.reduceAdd, Nat.reduceMul, Nat.reduceBEq, Int.reduceToNat, tyP, wdV_form, wdC_len, wdC_all, hspl, wd_take, hx.len sl38]
  obtain ⟨j, rfl⟩ : ∃ j, k = j + 1 := ⟨k - 1, by omega⟩
  obtain ⟨q, hq⟩ : ∃ q : PQ, q = ⟨n, j + 1, E, v, w, ws, lo, hi, x, h2.n, h2.n + 1, h4.n, h5.n⟩ := ⟨_, rfl⟩
  have nT3 := hE3.n
  have nT4 := hE4.n
  have nT5 : h4.n + 1 ≤ h5.n := hE5.n
  have e5 : Ext T h5 := (hE3.trans hE4).trans ((((Ext.refl h4).new _).put (Nat.le_refl _) _).trans hE5)
  have e6 : Ext h5 ((h5.new (.cells [.int .u64 0, .int .u64 0, .int .u64 0, .int .u64 0, .int .u64 0, .int .u64 0, .int .u64 0, .int .u64 0] 0 none)).put h5.n (.cells (wdC (wideN 0)) 0 none)) := ((Ext.refl h5).new _).put (Nat.le_refl _) _
  have st : PM q ((h5.new (.cells [.int .u64 0, .int .u64 0, .int .u64 0, .int .u64 0, .int .u64 0, .int .u64 0, .int .u64 0, .int .u64 0] 0 none)).put h5.n (.cells (wdC (wideN 0)) 0 none)) (partS q.F q.n j 0) := by
    subst hq
    refine ⟨(bT.ext e5).ext e6, aT.keep (e5.trans e6).keep, (hx.ext hE4).ext (((((Ext.refl h4).new _).put (Nat.le_refl _) _).trans hE5).trans e6), ?_, ?_, ?_, get_put_same _ _ rfl, by simp, by simp only; omega, by simp only; omega, by simp only [put_n, new_n]; omega⟩
    · exact ((e5.trans e6).get _ (show h2.n < T.n by omega)).trans gg
    · exact ((e5.trans e6).get _ (show h2.n + 1 < T.n by omega)).trans gb
    · refine ((hE5.trans e6).get _ (by simp only [put_n, new_n]; omega)).trans ?_
      exact get_put_same _ _ rfl
  have q1 : q.n = n := by rw [hq]
  have q2 : q.k = j + 1 := by rw [hq]
  have q3 : q.x = x := by rw [hq]
  have q4 : q.b3 = h2.n := by rw [hq]
  have q5 : q.b4 = h2.n + 1 := by rw [hq]
  have q6 : q.b7 = h4.n := by rw [hq]
  have q7 : q.b9 = h5.n := by rw [hq]
  have q8 : q.F = fitsB E ws lo hi := by rw [hq]; rfl
  have qL : q.L = distL (fitsB E ws lo hi) (2 ^ n) := by rw [hq]; rfl
  refine loop (fun m fr hh => ∃ i : Nat, i + m = q.L.length ∧ PM q hh (partS q.F q.n j i) ∧ PF q fr i) q.L.length ⟨0, by omega, st, ⟨?_, ?_, ?_, ?_, ?_, ?_, ?_⟩⟩ ?_
  · rw [q4]; simp
  · rw [q5]; simp
  · rw [q6]; simp
  · rw [q7]; simp
  · rw [q3]; simp
  · rw [qL]; simp
  · simp
  clear st e5 e6 hE3 hE4 hE5 hE1 hE2 eT gg gb rg rb r3g r3b hx r0 hca hcl tk e0 e1
  rintro m fr hh ⟨i, him, p, f⟩
  have f3 := f.f3
  have f4 := f.f4
  have f7 := f.f7
  have f9 := f.f9
  have f50 := f.f50
  have f51 := f.f51
  have f52 := f.f52
  simp -dsimp (maxSteps := 1000000) (disch := first | omega | (simp only [new_n, put_n]; omega) | decide +kernel | (repeat first | rw [new_n] | rw [put_n])) only [wpS, wpT, Nat.reduceEqDiff, reduceIte, Nat.reduceLT, Nat.reduceLeDiff, Nat.reduceAdd, Nat.reduceMul, Nat.reduceBEq, Int.reduceToNat, tyP, f51, f52]
  refine bq_intro ?_ ?_ <;> intro hc <;> simp only [bne_iff_ne, beq_iff_eq, decide_eq_true_eq, decide_eq_false_iff_not, bne_eq_false_iff_eq, beq_eq_false_iff_ne, ne_eq, Bool.not_eq_true', Bool.not_eq_false', Bool.not_eq_true, Bool.not_eq_false, Decidable.not_not, Bool.not_not] at hc
  · have hi : i < q.L.length := by omega
    obtain ⟨s, hs⟩ : ∃ s, q.L[i]? = some s := ⟨q.L[i], List.getElem?_eq_getElem hi⟩
    have hsm := List.mem_of_getElem? hs
    rw [qL] at hsm
    have hs2 := ((mem_dist _ _ _).1 hsm).1
    have p3 := p.l3
    have p4 := p.l4
    have p7 := p.l7
    have p9 := p.l9
    have ix := p.sx.idx (P := Proofs.Tryd.prog) (t := 38) es38 (k := .i64) (j := i) hi
    have ld := p.sx.ld (Keep.refl _) (c := i) (by simpa using hi) (P := Proofs.Tryd.prog) (t := 47) ag47
    rw [Nat.mul_one] at ix
    rw [List.getElem?_map, hs] at ld
    simp only [Option.map_some] at ld
    have r3 : hh.row (2 * q.b3) = some [KI q.n, q.v] := by rw [row_even]; simp only [IH.cells, p.g3]
    have r4 : hh.row (2 * q.b4) = some [q.w, KI q.lo, KI q.hi, KI q.k] := by rw [row_even]; simp only [IH.cells, p.g4]
    have hp0 : 0 < 2 ^ n := Nat.pow_pos (by omega)
    have eN : ((2 ^ n : Nat) : Int) - 1 = ((2 ^ n - 1 : Nat) : Int) := by omega
    have hr : nclr (2 ^ n - 1) s < 2 ^ n := nclr_lt (by omega)
    have hand : s &&& 1 = s % 2 := Nat.and_one_is_mod s
    have sEq : ((i : Int) + 1) = ((i + 1 : Nat) : Int) := by omega
    have hLl : q.L.length ≤ 2 ^ n := by rw [qL]; exact distL_len _ _
    rw [q1] at r3
    rw [q2] at r4
    have q0 : 0 ≤ ((2 ^ n : Nat) : Int) := Int.natCast_nonneg _
    simp -dsimp (maxSteps := 1000000) (disch := first | omega | (simp only [new_n, put_n]; omega) | decide +kernel | (repeat first | rw [new_n] | rw [put_n])) only [wpS, wpT, Nat.reduceEqDiff, reduceIte, Nat.reduceLT, Nat.reduceLeDiff, Nat.reduceAdd, Nat.reduceMul, Nat.reduceBEq, Int.reduceToNat, tyP, f3, f4, f7, f9, f50, f51, f52, ix, ld, r3, eN]
    have pS := partS_succ (F := q.F) (n := q.n) (j := j) hs
    have stepN : ∀ fr' : Fr, ∀ hh' : IH, PM q hh' (partS q.F q.n j (i + 1)) → PF q fr' (i + 1) → ∃ m', m' < m ∧ ∃ i : Nat, i + m' = q.L.length ∧ PM q hh' (partS q.F q.n j i) ∧ PF q fr' i := fun fr' hh' a b => ⟨m - 1, by omega, i + 1, by omega, a, b⟩
    have pT := part_term q.F j (nclr (2 ^ n - 1) s)
    have hway : partG q.F q.n j s = if s % 2 = 1 then ways q.F j (nclr (2 ^ n - 1) s) else 0 := by rw [partG, q1]
    rw [hand]
    rcases Nat.mod_two_eq_zero_or_one s with h0 | h0
    · rw [if_neg (by omega)] at hway
      rw [hway, Nat.add_zero] at pS
      rw [h0]
      simp -dsimp (maxSteps := 1000000) (disch := first | omega | (simp only [new_n, put_n]; omega) | decide +kernel | (repeat first | rw [new_n] | rw [put_n])) only [wpS, wpT, Nat.reduceEqDiff, reduceIte, Nat.reduceLT, Nat.reduceLeDiff, Nat.reduceAdd, Nat.reduceMul, Nat.reduceBEq, Int.reduceToNat, tyP, f52, sEq]
      refine stepN _ _ (by rw [pS]; exact p) ⟨by simp [f3], by simp [f4], by simp [f7], by simp [f9], by simp [f50], by simp [f51], by simp⟩
    · rw [if_pos h0] at hway
      rw [h0]
      generalize hrd : nclr (2 ^ n - 1) s = r at *
      have nb1 : (!(true == true)) = false := rfl
      have nb2 : (!(true == false)) = true := rfl
      have nb3 : (!(false == true)) = true := rfl
      have nb4 : (!(false == false)) = false := rfl
      have pL := partS_le q.F (n := q.n) (j := j) (by omega) (by omega) (by omega) (i + 1)
      by_cases hc1 : (r = 0 ↔ j = 0)
      · rw [if_pos hc1] at pT
        have hM : partG q.F q.n j s = if r = 0 then 1 else ways q.F j r := by rw [hway]; exact pT.symm
        have go : ((r : Int) == 0) = decide (r = 0) ∧ (((j + 1 : Nat) : Int) == 1) = decide (r = 0) := ⟨by rw [Bool.eq_iff_iff]; simp, by rw [Bool.eq_iff_iff]; simp [hc1]; omega⟩
        have go2 : (!(decide (r = 0) == decide (r = 0))) = false := by simp
        have go3 : (!decide (r = 0)) = decide (r ≠ 0) := by simp
        simp -dsimp (maxSteps := 1000000) (disch := first | omega | (simp only [new_n, put_n]; omega) | decide +kernel | (repeat first | rw [new_n] | rw [put_n])) only [wpS, wpT, Nat.reduceEqDiff, reduceIte, Nat.reduceLT, Nat.reduceLeDiff, Nat.reduceAdd, Nat.reduceMul, Nat.reduceBEq, Int.reduceToNat, tyP, f3, f4, f7, f9, f50, f51, f52, r4, go.1, go.2, go2]
        refine call (refOf_ok 1 (by decide)) ?_
        rintro _ h6 ⟨hE6, rfl⟩
        have p6 := p.ext hE6
        have bne1 : ((r : Int) != 0) = decide (r ≠ 0) := by rw [Bool.eq_iff_iff]; simp
        simp -dsimp (maxSteps := 1000000) (disch := first | omega | (simp only [new_n, put_n]; omega) | decide +kernel | (repeat first | rw [new_n] | rw [put_n])) only [wpS, wpT, Nat.reduceEqDiff, reduceIte, Nat.reduceLT, Nat.reduceLeDiff, Nat.reduceAdd, Nat.reduceMul, Nat.reduceBEq, Int.reduceToNat, tyP, f3, f4, f7, f9, f50, f51, f52, wdV_form, wdC_len, wdC_all, hspl, wd_take, bne1]
        have n6 := p6.l9
        have e7 : Ext h6 ((h6.new (.cells [.int .u64 0, .int .u64 0, .int .u64 0, .int .u64 0, .int .u64 0, .int .u64 0, .int .u64 0, .int .u64 0] 0 none)).put h6.n (.cells (wdC (wideN 1)) 0 none)) := ((Ext.refl h6).new _).put (Nat.le_refl _) _
        have g7 : ((h6.new (.cells [.int .u64 0, .int .u64 0, .int .u64 0, .int .u64 0, .int .u64 0, .int .u64 0, .int .u64 0, .int .u64 0] 0 none)).put h6.n (.cells (wdC (wideN 1)) 0 none)).ext.get h6.n = some (.cells (wdC (wideN 1)) 0 none) := get_put_same _ _ rfl
        have n7 : ((h6.new (.cells [.int .u64 0, .int .u64 0, .int .u64 0, .int .u64 0, .int .u64 0, .int .u64 0, .int .u64 0, .int .u64 0] 0 none)).put h6.n (.cells (wdC (wideN 1)) 0 none)).n = h6.n + 1 := rfl
        generalize (h6.new (.cells [.int .u64 0, .int .u64 0, .int .u64 0, .int .u64 0, .int .u64 0, .int .u64 0, .int .u64 0, .int .u64 0] 0 none)).put h6.n (.cells (wdC (wideN 1)) 0 none) = h7 at *
        have p7' := p6.ext e7
        refine bq_cut (fun fr2 h8 => PM q h8 (partS q.F q.n j i) ∧ PF q fr2 i ∧ fget fr2 13 = some (ptr (2 * h6.n) 0) ∧ h8.ext.get h6.n = some (.cells (wdC (wideN (partG q.F q.n j s : Int))) 0 none) ∧ h6.n < h8.n) (fun hb => ?_) (fun hb => ?_) ?_
        · have hb' : r ≠ 0 := by simpa using hb
          rw [if_neg hb'] at hM
          have hj1 : 1 ≤ j := by
            rcases Nat.eq_zero_or_pos j with h | h
            · exact absurd (hc1.2 h) hb'
            · exact h
          have hrq : r < 2 ^ q.n := by rw [q1]; exact hr
          obtain ⟨aG, _, _, aV, aL, aW, aB, _⟩ := enErr_ok p7'.a.ok
          have t3 : h7.row (2 * q.b3) = some [KI q.n, q.v] := by rw [row_even]; simp only [IH.cells, p7'.g3]
          simp -dsimp (maxSteps := 1000000) (disch := first | omega | (simp only [new_n, put_n]; omega) | decide +kernel | (repeat first | rw [new_n] | rw [put_n])) only [wpS, wpT, Nat.reduceEqDiff, reduceIte, Nat.reduceLT, Nat.reduceLeDiff, Nat.reduceAdd, Nat.reduceMul, Nat.reduceBEq, Int.reduceToNat, tyP, f3, f4, f7, f9, f50, f51, f52, t3, List.drop_zero, take2]
          refine call (induced_ok p7'.b p7'.a.sE aG (by omega) hb' hrq) ?_
          rintro _ h8 ⟨hE8, w8, x8, rfl, s8, sx8⟩
          have p8 := p7'.ext hE8
          have t4 : h8.row (2 * q.b4) = some [q.w, KI q.lo, KI q.hi, KI q.k] := by rw [row_even]; simp only [IH.cells, p8.g4]
          have n8 := hE8.n
          have tk4 : List.take 4 [q.w, KI q.lo, KI q.hi, KI q.k] = [q.w, KI q.lo, KI q.hi, KI q.k] := rfl
          simp -dsimp (maxSteps := 1000000) (disch := first | omega | (simp only [new_n, put_n]; omega) | decide +kernel | (repeat first | rw [new_n] | rw [put_n])) only [wpS, wpT, Nat.reduceEqDiff, reduceIte, Nat.reduceLT, Nat.reduceLeDiff, Nat.reduceAdd, Nat.reduceMul, Nat.reduceBEq, Int.reduceToNat, tyP, f3, f4, f7, f9, f50, f51, f52, t4, List.drop_zero, tk4, s8.cells, s8.cok, p8.a.sW.cells, p8.a.sW.cok]
          have eY : Ext h8 ((((h8.new (.cells [.int .i64 0, .slice none 0 0] 0 none)).put h8.n (.cells [KI ((pop q.n r : Nat) : Int), w8] 0 none)).new (.cells [.slice none 0 0, .int .i64 0, .int .i64 0, .int .i64 0] 0 none)).put (h8.n + 1) (.cells [q.w, KI q.lo, KI q.hi, KI q.k] 0 none)) := ((((Ext.refl h8).new _).put (Nat.le_refl _) _).new _).put (by omega) _
          have yg : ((((h8.new (.cells [.int .i64 0, .slice none 0 0] 0 none)).put h8.n (.cells [KI ((pop q.n r : Nat) : Int), w8] 0 none)).new (.cells [.slice none 0 0, .int .i64 0, .int .i64 0, .int .i64 0] 0 none)).put (h8.n + 1) (.cells [q.w, KI q.lo, KI q.hi, KI q.k] 0 none)).ext.get h8.n = some (.cells [KI ((pop q.n r : Nat) : Int), w8] 0 none) := by simp (disch := first | omega | (simp only [new_n, put_n]; omega) | (repeat first | rw [new_n] | rw [put_n])) only [get_new_same, get_new_old, get_put_same, get_put_old]
          have yb : ((((h8.new (.cells [.int .i64 0, .slice none 0 0] 0 none)).put h8.n (.cells [KI ((pop q.n r : Nat) : Int), w8] 0 none)).new (.cells [.slice none 0 0, .int .i64 0, .int .i64 0, .int .i64 0] 0 none)).put (h8.n + 1) (.cells [q.w, KI q.lo, KI q.hi, KI q.k] 0 none)).ext.get (h8.n + 1) = some (.cells [q.w, KI q.lo, KI q.hi, KI q.k] 0 none) := by simp (disch := first | omega | (simp only [new_n, put_n]; omega) | (repeat first | rw [new_n] | rw [put_n])) only [get_new_same, get_new_old, get_put_same, get_put_old]
          have yn : ((((h8.new (.cells [.int .i64 0, .slice none 0 0] 0 none)).put h8.n (.cells [KI ((pop q.n r : Nat) : Int), w8] 0 none)).new (.cells [.slice none 0 0, .int .i64 0, .int .i64 0, .int .i64 0] 0 none)).put (h8.n + 1) (.cells [q.w, KI q.lo, KI q.hi, KI q.k] 0 none)).n = h8.n + 2 := rfl
          generalize (((h8.new (.cells [.int .i64 0, .slice none 0 0] 0 none)).put h8.n (.cells [KI ((pop q.n r : Nat) : Int), w8] 0 none)).new (.cells [.slice none 0 0, .int .i64 0, .int .i64 0, .int .i64 0] 0 none)).put (h8.n + 1) (.cells [q.w, KI q.lo, KI q.hi, KI q.k] 0 none) = Y at *
          have pY := p8.ext eY
          have ry : Y.row (2 * q.b4) = some [q.w, KI q.lo, KI q.hi, KI q.k] := by rw [row_even]; simp only [IH.cells, pY.g4]
          rw [q2] at ry yb
          have ek : ((j + 1 : Nat) : Int) - 1 = (j : Int) := by omega
          have p84 := p8.l9
          have p83 := p8.l7
          refine drawn [(1, [6])] (by kernel_rfl) (by kernel_rfl) rfl ?_
          simp -dsimp (maxSteps := 1000000) (disch := first | omega | (simp only [new_n, put_n]; omega) | decide +kernel | (repeat first | rw [new_n] | rw [put_n])) only [wpS, wpT, Nat.reduceEqDiff, reduceIte, Nat.reduceLT, Nat.reduceLeDiff, Nat.reduceAdd, Nat.reduceMul, Nat.reduceBEq, Int.reduceToNat, tyP, f4, ry, yb, ek]
          refine ⟨wpSteady_one rfl rfl rfl rfl (steady_load (av := ptr (2 * q.b4) 3) (v := KI ((j + 1 : Nat) : Int)) ?_ ?_ ?_), ?_⟩
          · simp -dsimp (maxSteps := 1000000) (disch := first | omega | (simp only [new_n, put_n]; omega) | decide +kernel | (repeat first | rw [new_n] | rw [put_n])) only [wpS, wpT, Nat.reduceEqDiff, reduceIte, Nat.reduceLT, Nat.reduceLeDiff, Nat.reduceAdd, Nat.reduceMul, Nat.reduceBEq, Int.reduceToNat, tyP, f4]
          · simp -dsimp (maxSteps := 1000000) (disch := first | omega | (simp only [new_n, put_n]; omega) | decide +kernel | (repeat first | rw [new_n] | rw [put_n])) only [wpS, wpT, Nat.reduceEqDiff, reduceIte, Nat.reduceLT, Nat.reduceLeDiff, Nat.reduceAdd, Nat.reduceMul, Nat.reduceBEq, Int.reduceToNat, tyP, ry]
          · simp -dsimp (maxSteps := 1000000) (disch := first | omega | (simp only [new_n, put_n]; omega) | decide +kernel | (repeat first | rw [new_n] | rw [put_n])) only [wpS, wpT, Nat.reduceEqDiff, reduceIte, Nat.reduceLT, Nat.reduceLeDiff, Nat.reduceAdd, Nat.reduceMul, Nat.reduceBEq, Int.reduceToNat, tyP, ry]
          simp -dsimp (maxSteps := 1000000) (disch := first | omega | (simp only [new_n, put_n]; omega) | decide +kernel | (repeat first | rw [new_n] | rw [put_n])) only [wpS, wpT, Nat.reduceEqDiff, reduceIte, Nat.reduceLT, Nat.reduceLeDiff, Nat.reduceAdd, Nat.reduceMul, Nat.reduceBEq, Int.reduceToNat, tyP, f4, ry, yb, ek, sx8.len sl33]
          have hnl : (ndl r q.n).length ≤ q.n := by rw [ndl_len]; exact pop_le _ _
          refine loop (fun m2 fr2 hZ => ∃ (i2 : Nat) (cw : Value), i2 + m2 = (ndl r q.n).length ∧ Ext h8 hZ ∧ h8.n + 2 ≤ hZ.n ∧ hZ.ext.get h8.n = some (.cells [KI ((pop q.n r : Nat) : Int), w8] 0 none) ∧ hZ.ext.get (h8.n + 1) = some (.cells [cw, KI q.lo, KI q.hi, KI j] 0 none) ∧ Acc hZ (h8.n + 2) 1 cw i2 (((wsR q.ws r q.n).take i2).map KI) ∧ PF q fr2 i ∧ fget fr2 13 = some (ptr (2 * h6.n) 0) ∧ fget fr2 14 = some (ptr (2 * h8.n) 0) ∧ fget fr2 16 = some (KI 0) ∧ fget fr2 17 = some (ptr (2 * (h8.n + 1)) 0) ∧ fget fr2 89 = some x8 ∧ fget fr2 90 = some (KI (ndl r q.n).length) ∧ fget fr2 91 = some (KI i2)) (ndl r q.n).length
            ⟨0, .slice none 0 0, by omega, ?_, ?_, ?_, ?_, Acc.nil _ _ (by decide), ⟨by simp [f3], by simp [f4], by simp [f7], by simp [f9], by simp [f50], by simp [f51], by simp [f52]⟩, by simp, by simp, by simp, by simp, by simp, by simp, by simp⟩ ?_
          · exact (eY.put (by omega) _).put (by omega) _
          · simp only [put_n]; omega
          · rw [get_put_old _ _ (by omega), get_put_old _ _ (by omega)]; exact yg
          · exact get_put_same _ _ rfl
          rintro m2 fr2 hZ ⟨i2, cw, him2, zE, zn, zg, zc, zA, zF, z13, z14, z16, z17, z89, z90, z91⟩
          have z3 := zF.f3
          have z4 := zF.f4
          have z7 := zF.f7
          have z9 := zF.f9
          have z50 := zF.f50
          have z51 := zF.f51
          have z52 := zF.f52
          have pZ := p8.ext zE
          have sEq2 : ((i2 : Int) + 1) = ((i2 + 1 : Nat) : Int) := by omega
          simp -dsimp (maxSteps := 1000000) (disch := first | omega | (simp only [new_n, put_n]; omega) | decide +kernel | (repeat first | rw [new_n] | rw [put_n])) only [wpS, wpT, Nat.reduceEqDiff, reduceIte, Nat.reduceLT, Nat.reduceLeDiff, Nat.reduceAdd, Nat.reduceMul, Nat.reduceBEq, Int.reduceToNat, tyP, z89, z90, z91]
          refine bq_intro ?_ ?_ <;> intro hc2 <;> simp only [bne_iff_ne, beq_iff_eq, decide_eq_true_eq, decide_eq_false_iff_not, bne_eq_false_iff_eq, beq_eq_false_iff_ne, ne_eq, Bool.not_eq_true', Bool.not_eq_false', Bool.not_eq_true, Bool.not_eq_false, Decidable.not_not, Bool.not_not] at hc2
          · have hi2 : i2 < (ndl r q.n).length := by omega
            obtain ⟨d, hd⟩ : ∃ d, (ndl r q.n)[i2]? = some d := ⟨(ndl r q.n)[i2], List.getElem?_eq_getElem hi2⟩
            have hdn : d < q.n := List.mem_range.1 (List.mem_filter.1 (List.mem_of_getElem? hd)).1
            obtain ⟨y, hy⟩ : ∃ y, q.ws[d]? = some y := ⟨q.ws[d]'(by omega), List.getElem?_eq_getElem _⟩
            have hyD : q.ws.getD d 0 = y := by simp [List.getD, hy]
            have ixa := sx8.idx (P := Proofs.Tryd.prog) (t := 33) es33 (k := .i64) (j := i2) hi2
            have lda := sx8.ld zE.keep (c := i2) (by simpa using hi2) (P := Proofs.Tryd.prog) (t := 3) ag3
            rw [Nat.mul_one] at ixa
            rw [List.getElem?_map, hd] at lda
            simp only [Option.map_some] at lda
            have ixb := pZ.a.sW.idx (P := Proofs.Tryd.prog) (t := 33) es33 (k := .i64) (j := d) (by omega)
            have ldb : ∀ h', Keep hZ h' → load Proofs.Tryd.prog h' 3 (elemAddr q.w d) = some (KI y) := fun h' k => by
              rw [pZ.a.sW.ld k (c := d) (by rw [List.length_map]; omega) (P := Proofs.Tryd.prog) (t := 3) ag3, List.getElem?_map, hy]; rfl
            have ldb0 := ldb hZ (Keep.refl _)
            rw [Nat.mul_one] at ixb
            have zr4 : hZ.row (2 * q.b4) = some [q.w, KI q.lo, KI q.hi, KI ((j + 1 : Nat) : Int)] := by rw [row_even, ← q2]; simp only [IH.cells, pZ.g4]
            have zrc : hZ.row (2 * (h8.n + 1)) = some [cw, KI q.lo, KI q.hi, KI j] := by rw [row_even]; simp only [IH.cells, zc]
            simp -dsimp (maxSteps := 1000000) (disch := first | omega | (simp only [new_n, put_n]; omega) | decide +kernel | (repeat first | rw [new_n] | rw [put_n])) only [wpS, wpT, Nat.reduceEqDiff, reduceIte, Nat.reduceLT, Nat.reduceLeDiff, Nat.reduceAdd, Nat.reduceMul, Nat.reduceBEq, Int.reduceToNat, tyP, z89, z90, z91, ixa, lda]
            refine drawn [(1, [8]), (3, [8]), (6, [8])] (by kernel_rfl) (by kernel_rfl) rfl ?_
            obtain ⟨cw', hW, hap, hA6, hG6, hE6'⟩ := zA.app1 (x := KI y) (P := Proofs.Tryd.prog) (t := 33) ap33 rfl (by omega) zn (h0' := h8) zE (by omega)
            have gc6 := hG6.var (by omega) zc
            have n6' := hG6.n
            have w4 := (p8.ext hE6').g4
            rw [q2] at w4
            have wr4 : hW.row (2 * q.b4) = some [q.w, KI q.lo, KI q.hi, KI ((j + 1 : Nat) : Int)] := by rw [row_even]; simp only [IH.cells, w4]
            have wrc : hW.row (2 * (h8.n + 1)) = some [cw, KI q.lo, KI q.hi, KI j] := by rw [row_even]; simp only [IH.cells, gc6]
            have ldw := ldb hW hG6.keep
            simp -dsimp (maxSteps := 1000000) (disch := first | omega | (simp only [new_n, put_n]; omega) | decide +kernel | (repeat first | rw [new_n] | rw [put_n])) only [wpS, wpT, Nat.reduceEqDiff, reduceIte, Nat.reduceLT, Nat.reduceLeDiff, Nat.reduceAdd, Nat.reduceMul, Nat.reduceBEq, Int.reduceToNat, tyP, z4, z17, zr4, zrc, ixb, ldb0, hap, gc6, hA6.sl.cells, hA6.sl.cok]
            refine ⟨wpSteady_cons (wpSteady_one rfl rfl rfl rfl (steady_load (av := ptr (2 * (h8.n + 1)) 0) (v := cw) ?_ ?_ ?_)) (wpSteady_cons (wpSteady_one rfl rfl rfl rfl (steady_load (av := ptr (2 * q.b4) 0) (v := q.w) ?_ ?_ ?_)) (wpSteady_one rfl rfl rfl rfl (steady_load (av := elemAddr q.w d) (v := KI y) ?_ ?_ ?_))), ?_⟩
            · simp -dsimp (maxSteps := 1000000) (disch := first | omega | (simp only [new_n, put_n]; omega) | decide +kernel | (repeat first | rw [new_n] | rw [put_n])) only [wpS, wpT, Nat.reduceEqDiff, reduceIte, Nat.reduceLT, Nat.reduceLeDiff, Nat.reduceAdd, Nat.reduceMul, Nat.reduceBEq, Int.reduceToNat, tyP]
            · simp -dsimp (maxSteps := 1000000) (disch := first | omega | (simp only [new_n, put_n]; omega) | decide +kernel | (repeat first | rw [new_n] | rw [put_n])) only [wpS, wpT, Nat.reduceEqDiff, reduceIte, Nat.reduceLT, Nat.reduceLeDiff, Nat.reduceAdd, Nat.reduceMul, Nat.reduceBEq, Int.reduceToNat, tyP, zrc]
            · simp -dsimp (maxSteps := 1000000) (disch := first | omega | (simp only [new_n, put_n]; omega) | decide +kernel | (repeat first | rw [new_n] | rw [put_n])) only [wpS, wpT, Nat.reduceEqDiff, reduceIte, Nat.reduceLT, Nat.reduceLeDiff, Nat.reduceAdd, Nat.reduceMul, Nat.reduceBEq, Int.reduceToNat, tyP, zrc]
            · simp -dsimp (maxSteps := 1000000) (disch := first | omega | (simp only [new_n, put_n]; omega) | decide +kernel | (repeat first | rw [new_n] | rw [put_n])) only [wpS, wpT, Nat.reduceEqDiff, reduceIte, Nat.reduceLT, Nat.reduceLeDiff, Nat.reduceAdd, Nat.reduceMul, Nat.reduceBEq, Int.reduceToNat, tyP]
            · simp -dsimp (maxSteps := 1000000) (disch := first | omega | (simp only [new_n, put_n]; omega) | decide +kernel | (repeat first | rw [new_n] | rw [put_n])) only [wpS, wpT, Nat.reduceEqDiff, reduceIte, Nat.reduceLT, Nat.reduceLeDiff, Nat.reduceAdd, Nat.reduceMul, Nat.reduceBEq, Int.reduceToNat, tyP, zr4]
            · simp -dsimp (maxSteps := 1000000) (disch := first | omega | (simp only [new_n, put_n]; omega) | decide +kernel | (repeat first | rw [new_n] | rw [put_n])) only [wpS, wpT, Nat.reduceEqDiff, reduceIte, Nat.reduceLT, Nat.reduceLeDiff, Nat.reduceAdd, Nat.reduceMul, Nat.reduceBEq, Int.reduceToNat, tyP, zr4]
            · simp -dsimp (maxSteps := 1000000) (disch := first | omega | (simp only [new_n, put_n]; omega) | decide +kernel | (repeat first | rw [new_n] | rw [put_n])) only [wpS, wpT, Nat.reduceEqDiff, reduceIte, Nat.reduceLT, Nat.reduceLeDiff, Nat.reduceAdd, Nat.reduceMul, Nat.reduceBEq, Int.reduceToNat, tyP]
            · exact ldb0
            · exact ldb _ ((Ext.refl hZ).new _).keep
            have hZn := hG6.n
            simp -dsimp (maxSteps := 1000000) (disch := first | omega | (simp only [new_n, put_n]; omega) | decide +kernel | (repeat first | rw [new_n] | rw [put_n])) only [wpS, wpT, Nat.reduceEqDiff, reduceIte, Nat.reduceLT, Nat.reduceLeDiff, Nat.reduceAdd, Nat.reduceMul, Nat.reduceBEq, Int.reduceToNat, tyP, z91, sEq2]
            refine ⟨m2 - 1, by omega, i2 + 1, cw', by omega, hE6'.put (by omega) _, by simp only [put_n]; omega, ?_, get_put_same _ _ rfl, ?_, ⟨by simp [z3], by simp [z4], by simp [z7], by simp [z9], by simp [z50], by simp [z51], by simp [z52]⟩, by simp [z13], by simp [z14], by simp [z16], by simp [z17], by simp [z89], by simp [z90], by simp⟩
            · rw [get_put_old _ _ (by omega)]; exact hG6.var (by omega) zg
            · have hw1 : (wsR q.ws r q.n)[i2]? = some y := by rw [wsR, List.getElem?_map, hd, Option.map_some, hyD]
              rw [List.take_add_one, hw1, List.map_append]
              exact hA6.put gc6 _
          · obtain rfl : i2 = (ndl r q.n).length := by omega
            have hwl2 : (wsR q.ws r q.n).length = (ndl r q.n).length := by rw [wsR_len, ndl_len]
            rw [List.take_of_length_le (by omega)] at zA
            have zrg : hZ.row (2 * h8.n) = some [KI ((pop q.n r : Nat) : Int), w8] := by rw [row_even]; simp only [IH.cells, zg]
            have zrc : hZ.row (2 * (h8.n + 1)) = some [cw, KI q.lo, KI q.hi, KI j] := by rw [row_even]; simp only [IH.cells, zc]
            have tk4c : List.take 4 [cw, KI q.lo, KI q.hi, KI j] = [cw, KI q.lo, KI q.hi, KI j] := rfl
            simp -dsimp (maxSteps := 1000000) (disch := first | omega | (simp only [new_n, put_n]; omega) | decide +kernel | (repeat first | rw [new_n] | rw [put_n])) only [wpS, wpT, Nat.reduceEqDiff, reduceIte, Nat.reduceLT, Nat.reduceLeDiff, Nat.reduceAdd, Nat.reduceMul, Nat.reduceBEq, Int.reduceToNat, tyP, z14, z17, zrg, zrc, List.drop_zero, take2, tk4c]
            have aok := pZ.a.ok
            rw [q2] at aok
            have aC : ArgsAt hZ (pop q.n r) (indE r q.E) w8 cw (wsR q.ws r q.n) q.lo q.hi j := ⟨s8.ext zE, by rw [hwl2]; exact zA.sl, pZ.a.hhi, ind_en aok hb' hrq ⟨hj1, by omega⟩⟩
            refine call (count_ok pZ.b aC) ?_
            rintro _ h10 ⟨hE10, rfl⟩
            have eV : ∀ e ∈ q.E, e.1 < e.2 := fun e he => (aV e he).1
            have tot : totalP (pop q.n r) (indE r q.E) (wsR q.ws r q.n) q.lo q.hi j = ways q.F j r := total_dep q.lo q.hi (by omega) (by omega) eV hrq
            rw [tot]
            have n10 := hE10.n
            have n7z : h6.n < hZ.n := by have := zE.n; omega
            have g13 : h10.ext.get h6.n = some (.cells (wdC (wideN 1)) 0 none) := by rw [hE10.get _ n7z, zE.get _ (by omega), hE8.get _ (by omega)]; exact g7
            simp -dsimp (maxSteps := 1000000) (disch := first | omega | (simp only [new_n, put_n]; omega) | decide +kernel | (repeat first | rw [new_n] | rw [put_n])) only [wpS, wpT, Nat.reduceEqDiff, reduceIte, Nat.reduceLT, Nat.reduceLeDiff, Nat.reduceAdd, Nat.reduceMul, Nat.reduceBEq, Int.reduceToNat, tyP, z3, z4, z7, z9, z13, z16, z50, z51, z52, wdV_form, wdC_len, wdC_all, hspl, wd_take, g13]
            have e10 : Ext h10 ((h10.new (.cells [.int .u64 0, .int .u64 0, .int .u64 0, .int .u64 0, .int .u64 0, .int .u64 0, .int .u64 0, .int .u64 0] 0 none)).put h10.n (.cells (wdC (wideN (ways q.F j r : Int))) 0 none)) := ((Ext.refl h10).new _).put (Nat.le_refl _) _
            have p10 := (pZ.ext hE10).ext e10
            have g13b := (e10.get _ (show h6.n < h10.n by omega)).trans g13
            refine ⟨p10.put g13b (by omega) _, ⟨by simp [z3], by simp [z4], by simp [z7], by simp [z9], by simp [z50], by simp [z51], by simp [z52]⟩, by simp [z13], ?_, by simp only [put_n, new_n]; omega⟩
            rw [get_put_same _ _ rfl, splice_all (by rw [wdC_len, wdC_len]), hM]
        · have hb' : r = 0 := by simpa using hb
          rw [if_pos hb'] at hM
          simp -dsimp (maxSteps := 1000000) (disch := first | omega | (simp only [new_n, put_n]; omega) | decide +kernel | (repeat first | rw [new_n] | rw [put_n])) only [wpS, wpT, Nat.reduceEqDiff, reduceIte, Nat.reduceLT, Nat.reduceLeDiff, Nat.reduceAdd, Nat.reduceMul, Nat.reduceBEq, Int.reduceToNat, tyP]
          refine ⟨p7', ⟨by simp [f3], by simp [f4], by simp [f7], by simp [f9], by simp [f50], by simp [f51], by simp [f52]⟩, by simp, by rw [hM]; exact g7, by omega⟩
        · rintro fr2 h8 ⟨p8, f8, f13, g13, n13⟩
          have k3 := f8.f3
          have k4 := f8.f4
          have k7 := f8.f7
          have k9 := f8.f9
          have k50 := f8.f50
          have k51 := f8.f51
          have k52 := f8.f52
          have ra : h8.row (2 * q.b9) = some (wdC (wideN (partS q.F q.n j i : Int))) := by rw [row_even]; simp only [IH.cells, p8.g9]
          have rb : h8.row (2 * h6.n) = some (wdC (wideN (partG q.F q.n j s : Int))) := by rw [row_even]; simp only [IH.cells, g13]
          simp -dsimp (maxSteps := 1000000) (disch := first | omega | (simp only [new_n, put_n]; omega) | decide +kernel | (repeat first | rw [new_n] | rw [put_n])) only [wpS, wpT, Nat.reduceEqDiff, reduceIte, Nat.reduceLT, Nat.reduceLeDiff, Nat.reduceAdd, Nat.reduceMul, Nat.reduceBEq, Int.reduceToNat, tyP, k3, k4, k7, k9, k50, k51, k52, f13, ra, rb, wd_take, wdC_len]
          have i1 : In64 (partS q.F q.n j i : Int) := ⟨by omega, by omega⟩
          have i2 : In64 (partG q.F q.n j s : Int) := ⟨by omega, by omega⟩
          have i3 : InW ((partS q.F q.n j (i + 1) : Nat) : Int) := inW_of64 ⟨by omega, by omega⟩
          have esum : wdI (wideN (partS q.F q.n j i : Int)) + wdI (wideN (partG q.F q.n j s : Int)) = ((partS q.F q.n j (i + 1) : Nat) : Int) := by rw [wdI_wideN (inW_of64 i1), wdI_wideN (inW_of64 i2)]; omega
          refine call (refAdd_ok (wideN (partS q.F q.n j i : Int)) (wideN (partG q.F q.n j s : Int)) (wideN_small i1) (wideN_small i2)) ?_
          rintro _ h9 ⟨hE9, rfl⟩
          rw [esum, if_pos i3]
          have p9' := p8.ext hE9
          have g9 := p9'.g9
          have n9 := p9'.l9
          simp -dsimp (maxSteps := 1000000) (disch := first | omega | (simp only [new_n, put_n]; omega) | decide +kernel | (repeat first | rw [new_n] | rw [put_n])) only [wpS, wpT, Nat.reduceEqDiff, reduceIte, Nat.reduceLT, Nat.reduceLeDiff, Nat.reduceAdd, Nat.reduceMul, Nat.reduceBEq, Int.reduceToNat, tyP, k3, k4, k7, k9, k50, k51, k52, f13, ra, rb, wd_take, wdV_form, wdC_len, wdC_all, hspl, g9]
          have e9 : Ext h9 ((h9.new (.cells [.int .u64 0, .int .u64 0, .int .u64 0, .int .u64 0, .int .u64 0, .int .u64 0, .int .u64 0, .int .u64 0] 0 none)).put h9.n (.cells (wdC (wideN (partS q.F q.n j (i + 1) : Int))) 0 none)) := ((Ext.refl h9).new _).put (Nat.le_refl _) _
          exact stepN _ _ ((p9'.ext e9).set _) ⟨by simp [k3], by simp [k4], by simp [k7], by simp [k9], by simp [k50], by simp [k51], by simp⟩
      · rw [if_neg hc1] at pT
        rw [hway, ← pT, Nat.add_zero] at pS
        have fin : ∀ fr' : Fr, PF q fr' (i + 1) → _ := fun fr' b => stepN fr' hh (by rw [pS]; exact p) b
        by_cases hr0 : r = 0
        · have hj0 : ¬ j = 0 := fun h => hc1 ⟨fun _ => h, fun _ => hr0⟩
          have go1 : ((r : Int) == 0) = true := by simp [hr0]
          have go2 : (((j + 1 : Nat) : Int) == 1) = false := by simp; omega
          simp -dsimp (maxSteps := 1000000) (disch := first | omega | (simp only [new_n, put_n]; omega) | decide +kernel | (repeat first | rw [new_n] | rw [put_n])) only [wpS, wpT, Nat.reduceEqDiff, reduceIte, Nat.reduceLT, Nat.reduceLeDiff, Nat.reduceAdd, Nat.reduceMul, Nat.reduceBEq, Int.reduceToNat, tyP, f3, f4, f7, f9, f50, f51, f52, r4, go1, go2, nb2, sEq]
          exact fin _ ⟨by simp [f3], by simp [f4], by simp [f7], by simp [f9], by simp [f50], by simp [f51], by simp⟩
        · have hj0 : j = 0 := Classical.byContradiction fun h => hc1 ⟨fun h2 => absurd h2 hr0, fun h2 => absurd h2 h⟩
          have go1 : ((r : Int) == 0) = false := by simp; omega
          have go2 : (((j + 1 : Nat) : Int) == 1) = true := by simp [hj0]
          simp -dsimp (maxSteps := 1000000) (disch := first | omega | (simp only [new_n, put_n]; omega) | decide +kernel | (repeat first | rw [new_n] | rw [put_n])) only [wpS, wpT, Nat.reduceEqDiff, reduceIte, Nat.reduceLT, Nat.reduceLeDiff, Nat.reduceAdd, Nat.reduceMul, Nat.reduceBEq, Int.reduceToNat, tyP, f3, f4, f7, f9, f50, f51, f52, r4, go1, go2, nb3, sEq]
          exact fin _ ⟨by simp [f3], by simp [f4], by simp [f7], by simp [f9], by simp [f50], by simp [f51], by simp⟩
  · obtain rfl : i = q.L.length := by omega
    have hpa := partS_all (F := q.F) (n := q.n) (j := j) (i := q.L.length) (by omega) (by omega) (Nat.le_refl _)
    rw [hpa] at p
    have hpt : totalP q.n q.E q.ws q.lo q.hi q.k = ways q.F (j + 1) (2 ^ q.n - 1) := by rw [totalP, after_nil, q2]; rfl
    have p7 := p.g7
    rw [hpt] at p7
    have hsm := totalP_small p.a.ok
    rw [hpt] at hsm
    have i1 : In64 (ways q.F (j + 1) (2 ^ q.n - 1) : Int) := ⟨by omega, by omega⟩
    have ra : hh.row (2 * q.b9) = some (wdC (wideN (ways q.F (j + 1) (2 ^ q.n - 1) : Int))) := by rw [row_even]; simp only [IH.cells, p.g9]
    have rb : hh.row (2 * q.b7) = some (wdC (wideN (ways q.F (j + 1) (2 ^ q.n - 1) : Int))) := by rw [row_even]; simp only [IH.cells, p7]
    have hqq := wd_eql (wideN_small i1) (wideN_small i1)
    simp -dsimp (maxSteps := 1000000) (disch := first | omega | (simp only [new_n, put_n]; omega) | decide +kernel | (repeat first | rw [new_n] | rw [put_n])) only [wpS, wpT, Nat.reduceEqDiff, reduceIte, Nat.reduceLT, Nat.reduceLeDiff, Nat.reduceAdd, Nat.reduceMul, Nat.reduceBEq, Int.reduceToNat, tyP, f7, f9, ra, rb, wd_take, wdC_len, hqq, decide_true]
end Go.Id

/-! EnumerateParts: for every draft the law returns true, and the draft reads as it did. Conditions: none but the row's own (the listed tables of math/bits hold what the program's text lays into them). -/
namespace Go.Proofs.YtcmfdbjgimekbaaDoor
open Go.ChangeShapes Go.WideShapes Go.ChangeAt Go.RowKit Go.Id

theorem parts_met (os : Os) (args : Array Value) : laidMetH Tryd.prog laid2 ((World.doorLaid Tryd.prog 400 os).forCall (fun _ _ => 0) ⟨#[], args, []⟩).memory := by
  rw [MakeChecks.laidMetH_plain _ _ _ (by kernel_rfl)]
  exact laidMet_of_run' 8 (by kernel_rfl) (by kernel_rfl)
set_option maxRecDepth 100000 in
theorem parts_lifted (os : Os) (started : os.Started) (H : Type) (enc : TypeId × Value → H) :
    ReturnsInHanded {} Tryd.checked os 6 .any (fun w args => (Rows.enumeratePartsSpec.pre enc Tryd.prog Tryd.f6 [] false w args ∧ laidMetH Tryd.prog laid2 w) ∧ sizedMet enc Tryd.prog Tryd.f6 (OpenSpec.ofChange Rows.enumeratePartsSpec) false w args)
      (Rows.enumeratePartsSpec.post enc Tryd.prog Tryd.f6 false true false false) := by
  refine returnsInHanded_of_change_and (C := Tryd.checked) (X := fun w _ => laidMetH Tryd.prog laid2 w) (fun _ _ _ hh h => h.of_heap hh) Tryd.own started (by kernel_rfl) Tryd.func6
    (ChangeSpec.witness_shaped (enc := enc) (C := Tryd.checked) (os := os) (X := fun w _ => laidMetH Tryd.prog laid2 w) false (World.doorLaid Tryd.prog 400 os) #[.agg #[.int .u8 0, .int .u8 0, .int .u16 0, .slice none 0 0, .slice none 0 0, .int .u8 0, .int .u8 0]] 8 rfl (World.shaped_of_RefB (by kernel_rfl) (by kernel_rfl)) (by kernel_rfl) (by kernel_rfl) (by kernel_rfl) (parts_met os _)) ?_
  intro W base args ds gs before hval0 hW _ _ hL _
  have hval : ∀ (j : Nat) t v, Tryd.f6.params[j]? = some t → args[j]? = some v → Value.okWide Tryd.prog W .any base t v := hval0
  have hW' := hW
  obtain ⟨p, q, hA0, hV, rfl, hfz, hnd⟩ := hW
  have hA : DataW.TrodAll enc Tryd.prog W 0 (fun _ => true) true Tryd.f6.params.toList args.toList ds p := hA0
  have hA1 := hA
  rw [Tryd.params6] at hA hval
  obtain ⟨v0, d0, rfl, rfl, h0⟩ := trodAll_one hA
  obtain ⟨rfl, rfl⟩ := trodVars_none hV
  obtain ⟨cs, rfl, _, _⟩ : ∃ cs, v0 = .agg cs ∧ cs.size = Tryd.prog.cellsOf 28 ∧ Row.okWide Tryd.prog W .any base 28 cs := by
    have := hval 0 28 v0 rfl rfl
    unfold Value.okWide at this
    rw [Tryd.underlying28] at this
    exact this
  obtain ⟨fuel, h1⟩ := h0
  have hD : DraftIn W cs.toList := draft_of (held := true) h1
  obtain ⟨l, x, hl, hr, hx⟩ := draft_ideal hD
  have hr' : VRel (Mp.startOf (entA l)) x (.agg cs) := by simpa using hr
  have hb := base_ok (glob_ok hL) hl
  refine (wv_true Tryd.sound (parts_ideal (baseT_start l) hx) hb (args' := #[.agg cs]) (.cons hr' (.nil _))).mono fun e W' ⟨he, hk⟩ => ?_
  subst he
  refine ⟨_, rfl, post_of_below (pa := p) (pv := []) hW' (fun _ _ _ => trodAll_mk1 (shut_bool Tryd.underlying4 _)) (fun sp hs => ?_) (fun _ _ => rfl) hk⟩
  exact trodAll_stays Tryd.kids Tryd.pos hk hA1 (fun t ht => by rw [Tryd.params6] at ht; simp at ht; subst ht; exact of_decide_eq_true (by kernel_rfl)) (fun x hx => hs x (by simpa using hx))
theorem parts_row : Rows.EnumeratePartsSaid :=
  OpenClaim.holds_of_wide 6 Tryd.f6 rfl rfl rfl rfl rfl rfl rfl ⟨rfl, rfl, rfl, rfl, rfl⟩ rfl rfl rfl rfl rfl (by kernel_rfl) Tryd.func6 (by kernel_rfl)
    (of_decide_eq_true (by kernel_rfl)) (by unfold Func.isWrapper; first | (rw [if_pos (by decide +kernel)]; kernel_rfl) | (rw [if_neg (by decide +kernel)]; exact ⟨rfl, rfl⟩))
    (fun os started H enc _ => parts_lifted os started H enc)
theorem parts_card : Rows.EnumeratePartsCardSaid :=
  Claim7.holds_tied_plain_at .later [] [.data, .data] true (true, "f1aa8008fc7e03d867aea647d31d8d98e431bd63b20ba7b761a8056a23c69bcb") false
    parts_row (fun _ h => by cases h) (by kernel_rfl) (fun _ h => by cases h) enumerateParts_row_tie rfl ⟨rfl, rfl⟩ (by kernel_rfl) rfl
    (fun f fn hf hfn => by
      obtain rfl : f = 6 := Option.some.inj ((show Tryd.prog.funcNamed "wardmote/wardmotelaw36.EnumerateParts" = some 6 by kernel_rfl).symm.trans hf) |>.symm
      obtain rfl : fn = Tryd.f6 := (Option.some.inj (Tryd.func6.symm.trans hfn)).symm
      exact ⟨by kernel_rfl, fun j t ht => by
        rw [Tryd.params6] at ht
        have h3 : t = 28 := by
          rcases j with _ | j
          · simpa using ht.symm
          · simp at ht
        subst h3
        exact (show Tryd.prog.wantsStandIn 28 = false by kernel_rfl)⟩)
    (by kernel_rfl)
#print axioms parts_card
end Go.Proofs.YtcmfdbjgimekbaaDoor
