/-
  Contracts: the reference's chapter 35: Batches. Contracts: the laws' helpers: lists cut, cloned and made longer. Contracts: the laws' helpers: short shares of drafts; a list made as long as the limit. The rows' common part (no table listed): shares and drafts that came in. Contracts: package diagnose: what is wrong with several chains. Contracts: the reference's chapter 35: what is wrong with several chains. Contracts: the reference's chapter 35: autocovariances, Mean, Auto. Contracts: package diagnose: the variance within. Contracts: package diagnose: the variance within, and that of the means.
-/
import Derived.Test.YthbkinefgmfgeaaGreatDiagnoseBatchesAn
import Derived.Test.YthbkinefgmfgeaaGreatDiagnoseBatchesAo
import Derived.Test.YthbkinefgmfgeaaGreatDiagnoseBatchesAg
import Derived.Test.YthbkinefgmfgeaaGreatRows
import Derived.ProofKit
set_option linter.unusedVariables false
set_option linter.unusedSimpArgs false
set_option linter.defProp false
set_option linter.deprecated false
/-! Contracts: the reference's chapter 35: Batches. -/
namespace Go.Id
open Go
theorem shL_drop : ∀ (i : Nat) (l : List (Nat × Nat)), shL (l.drop i) = (shL l).drop (i * 16)
  | 0, l => by simp
  | i + 1, [] => by simp [shL]
  | i + 1, a :: l => by
    rw [List.drop_succ_cons, shL_drop i l, shL, shL, List.flatMap_cons, show (i + 1) * 16 = (shC a.1 a.2).length + i * 16 by rw [shC_len]; omega, List.drop_length_add_append]
theorem shL_take : ∀ (i : Nat) (l : List (Nat × Nat)), shL (l.take i) = (shL l).take (i * 16)
  | 0, l => by simp [shL]
  | i + 1, [] => by simp [shL]
  | i + 1, a :: l => by
    have ih := shL_take i l
    simp only [shL] at ih
    rw [List.take_succ_cons, shL, shL, List.flatMap_cons, List.flatMap_cons, show (i + 1) * 16 = (shC a.1 a.2).length + i * 16 by rw [shC_len]; omega, List.take_length_add_append, ih]
theorem ShSl.sub {h h' : IH} {v : Value} {l : List (Nat × Nat)} (s : ShSl h v l) (kp : Keep h h') {i m : Nat} (hi : i ≤ m) (hm : m ≤ l.length) :
    ∃ v', sliceOp Proofs.Tryz.prog h' 25 v (some (KN i)) (some (KN m)) none = some v' ∧ ShSl h v' ((l.drop i).take (m - i)) := by
  obtain ⟨a, b, c⟩ := s
  obtain ⟨v', e1, e2⟩ := a.slice kp (P := Proofs.Tryz.prog) (t := 25) u25 sz30 (l := i) (m := m) hi hm (lo := some (KN i)) (hi := some (KN m)) (natOf_nat (k := .i64) hi) (fun c hc => natOf_nat (k := .i64) (by omega))
  have hlen : ((l.drop i).take (m - i)).length = m - i := by simp; omega
  refine ⟨v', e1, ?_, by omega, fun p hp => c p (List.mem_of_mem_drop (List.mem_of_mem_take hp))⟩
  rw [hlen, shL_take, shL_drop]
  exact e2
set_option maxHeartbeats 8000000 in
theorem rfBatches_ok {h : IH} {v : Value} {l : List (Nat × Nat)} {size : Int} (hv : ShSl h v l) {k : Nat} (hk : allOk l → ∀ q ∈ l.map rOf, QB k q) (hb : l.length ≤ 200 → mBits l.length k < 16000000) :
    WV Proofs.Tryz.prog (.func (.func 33) #[] #[]) [v, KI size] h fun r h' => Ext h h' ∧ ∃ s, r = .tuple #[s, KI (batErr l size)] ∧ if batErr l size = 0 then ShSl h' s ((bmeans (l.map rOf) size.toNat).map shOf) else s = .slice none 0 0 := by
  have her := chErr_range l
  have errEnd : ∀ (e : Int), e ≠ 0 → batErr l size = e → ∀ hh : IH, Ext h hh → (Ext h hh ∧ ∃ s, Value.tuple #[.slice none 0 0, KI e] = .tuple #[s, KI (batErr l size)] ∧ if batErr l size = 0 then ShSl hh s ((bmeans (l.map rOf) size.toNat).map shOf) else s = .slice none 0 0) := by
    intro e he hbe hh hE
    exact ⟨hE, _, by rw [hbe], by rw [if_neg (by rw [hbe]; exact he)]⟩
  refine enter (nt := 53) (rs := [.tmp 4, .tmp 5]) Proofs.Tryz.func33 rfl rfl rfl (by simp) ?_
  simp -dsimp (disch := omega) only [wpS, Nat.reduceEqDiff, Nat.reduceAdd]
  refine call (rfright_ok hv) ?_
  rintro _ h1 ⟨X1, rfl⟩
  by_cases he : chErr l = 0
  case neg =>
    have hbe : batErr l size = chErr l := by rw [batErr, if_neg he]
    have he' : (chErr l == 0) = false := by simpa using he
    simp -dsimp (disch := omega) only [wpS, wpT, Nat.reduceEqDiff]
    exact errEnd _ he hbe _ X1
  obtain ⟨e1, e2, e3⟩ := chErr_iff.1 he
  have hkk := hk e2
  have hbb := hb e1
  rw [he]
  by_cases hsz : 1 ≤ size ∧ size ≤ l.length
  case neg =>
    have hbe : batErr l size = 2 := by rw [batErr, if_pos he, if_neg hsz]
    by_cases hlt : size < 1
    · have c1 : decide (size < 1) = true := decide_eq_true hlt
      simp -dsimp (disch := omega) only [wpS, wpT, Nat.reduceEqDiff, c1]
      exact errEnd _ (by omega) hbe _ X1
    · have c1 : decide (size < 1) = false := decide_eq_false hlt
      have c2 : decide ((l.length : Int) < size) = true := decide_eq_true (by omega)
      simp -dsimp (disch := omega) only [wpS, wpT, Nat.reduceEqDiff, c1, c2, hv.1.len sl25]
      exact errEnd _ (by omega) hbe _ X1
  obtain ⟨sz, rfl⟩ := Int.eq_ofNat_of_zero_le (show 0 ≤ size by omega)
  have hs1 : 1 ≤ sz := by omega
  have hs2 : sz ≤ l.length := by omega
  rw [Int.toNat_natCast] at errEnd ⊢
  have c1 : decide ((sz : Int) < 1) = false := decide_eq_false (by omega)
  have c2 : decide ((l.length : Int) < (sz : Int)) = false := decide_eq_false (by omega)
  have hlen : (l.map rOf).length = l.length := List.length_map ..
  have hjsz : ∀ j, j ≤ l.length / sz → j * sz ≤ l.length := fun j hj => Nat.le_trans (Nat.mul_le_mul_right _ hj) (Nat.div_mul_le_self _ _)
  have hend : ∀ j, j ≤ l.length / sz → l.length < j * sz + sz → j = l.length / sz := by
    intro j hj hlt
    apply Nat.le_antisymm hj
    have : l.length / sz < j + 1 := by
      rw [Nat.div_lt_iff_lt_mul (by omega), Nat.add_mul, Nat.one_mul]; exact hlt
    omega
  simp -dsimp (disch := omega) only [wpS, wpT, Nat.reduceEqDiff, c1, c2, hv.1.len sl25]
  refine loop (fun m fr hh => ∃ (j : Nat) (out : Value), j + m = l.length / sz ∧ Ext h hh ∧ (∀ q ∈ (bmeans (l.map rOf) sz).take j, QW q) ∧ Acc hh h.n 16 out (((bmeans (l.map rOf) sz).take j).map shOf).length (shL (((bmeans (l.map rOf) sz).take j).map shOf)) ∧
      fget fr 0 = some v ∧ fget fr 1 = some (KN sz) ∧ fget fr 7 = some out ∧ fget fr 8 = some (KN (j * sz))) (l.length / sz)
    ⟨0, .slice none 0 0, by omega, X1, fun q hq => by simp at hq, Acc.nil _ _ (by omega), by simp, by simp, by simp, by simp⟩ ?_
  rintro m fr hh ⟨j, out, hjm, hE, ho, hA, f0, f1, f7, f8⟩
  have hj := hjsz j (by omega)
  have hnn := hE.n
  have eD : (l.length : Int) - ((j * sz : Nat) : Int) = ((l.length - j * sz : Nat) : Int) := by omega
  have hjb : j * sz ≤ 200 := by omega
  by_cases hfull : j * sz + sz ≤ l.length
  · have cdec : decide ((sz : Int) ≤ ((l.length - j * sz : Nat) : Int)) = true := decide_eq_true (by omega)
    have eA : ((j * sz : Nat) : Int) + (sz : Int) = ((j * sz + sz : Nat) : Int) := by omega
    have hjn : j < l.length / sz := by
      apply Classical.byContradiction; intro hn
      have : j = l.length / sz := by omega
      have h5 := Nat.lt_div_mul_add (a := l.length) (show 0 < sz by omega)
      rw [← this] at h5; omega
    obtain ⟨w, hw1, hw2⟩ := hv.sub hE.keep (i := j * sz) (m := j * sz + sz) (by omega) hfull
    rw [Nat.add_sub_cancel_left] at hw2
    obtain ⟨P, hP⟩ : ∃ P, P = (l.drop (j * sz)).take sz := ⟨_, rfl⟩
    have hPl : P.length = sz := by rw [hP]; simp; omega
    rw [← hP] at hw2
    have hPok : allOk P := fun p hp => e2 p (by rw [hP] at hp; exact List.mem_of_mem_drop (List.mem_of_mem_take hp))
    have hPm : P.map rOf = ((l.map rOf).drop (j * sz)).take sz := by rw [hP, List.map_take, List.map_drop]
    have hPB : ∀ q ∈ P.map rOf, QB k q := fun q hq => hkk q (by rw [hPm] at hq; exact List.mem_of_mem_drop (List.mem_of_mem_take hq))
    have hPb : (P.map rOf).length * (k + 1) + 17 < 16000000 := by
      rw [List.length_map, hPl]
      have : sz * (k + 1) ≤ l.length * (k + 1) := Nat.mul_le_mul_right _ hs2
      unfold mBits at hbb
      omega
    have hPn : P.map rOf ≠ [] := by
      intro h0
      have : (P.map rOf).length = 0 := by rw [h0]; rfl
      rw [List.length_map] at this; omega
    simp -dsimp (disch := omega) only [wpS, Nat.reduceEqDiff, f0, f1, f8, hv.1.len sl25, eD, cdec, eA, hw1]
    refine call (rfvalues_ok (hw2.keep hE.keep) hPok (by omega)) ?_
    rintro sv h3 ⟨X3, hs3⟩
    simp -dsimp (disch := omega) only [wpS, Nat.reduceEqDiff]
    refine call (rfaverage_ok hs3 hPn hPB hPb) ?_
    rintro r4 h4 ⟨X4, p4⟩
    simp -dsimp (disch := omega) only [wpS, Nat.reduceEqDiff]
    refine call (refout_ok p4) ?_
    rintro _ h5 ⟨X5, rfl⟩
    have X35 := (X3.trans X4).trans X5
    have m5 := X35.n
    have hbm : qmean (P.map rOf) = bmean (l.map rOf) sz j := by rw [hPm]; rfl
    have hat := bmeans_at (l := l.map rOf) (sz := sz) (j := j) (by rw [hlen]; exact hjn)
    rw [hbm]
    by_cases hq : QW (bmean (l.map rOf) sz j)
    · rw [if_pos hq]
      have eA5 : Ext h5 ((h5.new (.cells Z16 0 none)).put h5.n (.cells (shC (wideN (bmean (l.map rOf) sz j).num) (wideN ((bmean (l.map rOf) sz j).den : Int))) 0 none)) := ((Ext.refl _).new _).put (Nat.le_refl _) _
      have hcnt : (((bmeans (l.map rOf) sz).take j).map shOf).length ≤ 200 := by
        rw [List.length_map, List.length_take]
        have := Nat.div_le_self l.length sz
        omega
      obtain ⟨out', h8, hap, hA8, hG8, hE8⟩ := (hA.ext (X35.trans eA5)).appN (P := Proofs.Tryz.prog) (t := 25) ap25 (m := 1) (new := shC (wideN (bmean (l.map rOf) sz j).num) (wideN ((bmean (l.map rOf) sz j).den : Int))) (by omega) (by rw [shC_len]) (shC_all _ _) (by omega) (by simp only [put_n, new_n]; omega) (hE.trans (X35.trans eA5)) (Nat.le_refl _)
      have eT : ((bmeans (l.map rOf) sz).take (j + 1)).map shOf = ((bmeans (l.map rOf) sz).take j).map shOf ++ [shOf (bmean (l.map rOf) sz j)] := by rw [take_snoc hat, List.map_append]; rfl
      have hA8' : Acc h8 h.n 16 out' (((bmeans (l.map rOf) sz).take (j + 1)).map shOf).length (shL (((bmeans (l.map rOf) sz).take (j + 1)).map shOf)) := by
        rw [eT, shL_snoc, List.length_append]
        exact hA8
      have hap' : append Proofs.Tryz.prog (((h5.new (.cells Z16 0 none)).put h5.n (.cells (shC (wideN (bmean (l.map rOf) sz j).num) (wideN ((bmean (l.map rOf) sz j).den : Int))) 0 none)).new (.cells (shC (wideN (bmean (l.map rOf) sz j).num) (wideN ((bmean (l.map rOf) sz j).den : Int))) 16 none)) 25 out (.slice (some ⟨2 * (h5.n + 1), 0, none⟩) 1 3) = some (out', h8) := hap
      simp -dsimp (disch := omega) only [wpS, wpT, Nat.reduceEqDiff, Nat.reduceLeDiff, Nat.reduceAdd, zc30, st30, ld30, bs25, ba25_25, f1, f7, f8, shV_cells, shC_len, shC_all, sh_sp3, sh_take, hap', eA]
      refine ⟨m - 1, by omega, j + 1, out', by omega, hE8, ?_, hA8', by simp [f0], by simp [f1], by simp, by simp [Nat.add_mul]⟩
      rw [take_snoc hat]
      intro q hqm
      rcases List.mem_append.1 hqm with hqm | hqm
      · exact ho q hqm
      · simp at hqm; subst hqm; exact hq
    · rw [if_neg hq]
      have hbe : batErr l (sz : Int) = 6 := by
        rw [batErr, if_pos he, if_pos ⟨by omega, by omega⟩, Int.toNat_natCast, if_neg (fun hall => hq (hall _ (List.mem_of_getElem? hat)))]
      simp -dsimp (disch := omega) only [wpS, wpT, Nat.reduceEqDiff, Nat.reduceLeDiff, Nat.reduceAdd, zc30, st30, shV_cells, shC_len, shC_all, sh_sp3]
      exact errEnd 6 (by omega) hbe _ (((hE.trans X35).new _).put (by omega) _)
  · have cdec : decide ((sz : Int) ≤ ((l.length - j * sz : Nat) : Int)) = false := decide_eq_false (by omega)
    have hje : j = l.length / sz := hend j (by omega) (by omega)
    have et : (bmeans (l.map rOf) sz).take j = bmeans (l.map rOf) sz := List.take_of_length_le (by rw [bmeans_len, hlen]; omega)
    rw [et] at ho hA
    have hbe : batErr l (sz : Int) = 0 := by
      rw [batErr, if_pos he, if_pos ⟨by omega, by omega⟩, Int.toNat_natCast, if_pos ho]
    simp -dsimp (disch := omega) only [wpS, Nat.reduceEqDiff, f0, f1, f7, f8, hv.1.len sl25, eD, cdec]
    refine ⟨hE, out, by rw [hbe], ?_⟩
    rw [if_pos hbe]
    refine ⟨hA.sl, ?_, ?_⟩
    · rw [List.length_map, bmeans_len, hlen]
      have := Nat.div_le_self l.length sz
      omega
    · intro p hp
      obtain ⟨q, hq, rfl⟩ := List.mem_map.1 hp
      exact shOf_lt (ho q hq)
end Go.Id

/-! Contracts: the laws' helpers: lists cut, cloned and made longer. -/
namespace Go.Id
open Go
theorem shclone_ok {h : IH} {v : Value} {l : List (Nat × Nat)} (hs : ShSl h v l) (hne : v = .slice none 0 0 ∨ 0 < l.length) (hn : l.length ≤ 1000000) :
    WV Proofs.Tryz.prog (.func (.func 77) #[] #[]) [v] h fun r h' => Ext h h' ∧ Acc h' h.n 16 r l.length (shL l) := by
  have hc := shL_all l
  have hnow := hs.1.now
  obtain ⟨⟨hz, hl, ⟨rfl, hl0⟩ | ⟨b, o, k, rfl, hh⟩⟩, _⟩ := hs
  · refine enter (nt := 8) (rs := [.tmp 2]) Proofs.Tryz.func77 rfl rfl rfl (by simp) ?_
    simp -dsimp (disch := omega) only [wpS, wpT, Nat.reduceEqDiff, Nat.reduceMul, bs25, nil_eq_none u25]
    obtain rfl : l = [] := List.length_eq_zero_iff.1 hl0
    exact ⟨Ext.refl _, Acc.nil _ _ (by omega)⟩
  · have hp : 0 < l.length := by
      rcases hne with h1 | h1
      · cases h1
      · exact h1
    have hk : Ext h (h.new (.cells [] 16 none)) := (Ext.refl h).new _
    have hnow2 : SlNow (h.new (.cells [] 16 none)) 16 (.slice (some ⟨b, o, none⟩) l.length k) l.length (shL l) := (SlOf.keep ⟨hz, hl, .inr ⟨b, o, k, rfl, hh⟩⟩ hk.keep).now
    refine enter (nt := 8) (rs := [.tmp 2]) Proofs.Tryz.func77 rfl rfl rfl (by simp) ?_
    simp -dsimp (disch := omega) only [wpS, wpT, Nat.reduceEqDiff, Nat.reduceMul, bs25, ba25_25, nil_eq_some u25, append_zero ap25 _ hnow2 hp hc (by omega)]
    refine ⟨hk.new _, ?_⟩
    exact (acc_new (by omega) hl hp).from (by simp)
/-- A list of shares that came in (of any length). -/
def ShArg (h : IH) (v : Value) (l : List (Nat × Nat)) : Prop := SlOf h 16 v l.length (shL l) ∧ ∀ p ∈ l, p.1 < W8 ∧ p.2 < W8
theorem ShArg.keep {h h' : IH} {v : Value} {l : List (Nat × Nat)} (s : ShArg h v l) (e : Keep h h') : ShArg h' v l := ⟨s.1.keep e, s.2⟩
/-- The first elements of a slice. -/
theorem ShArg.first {h h' : IH} {v : Value} {l : List (Nat × Nat)} (s : ShArg h v l) (kp : Keep h h') {m : Nat} (hm : m ≤ l.length) (hm2 : m ≤ 100000) : ∃ v', sliceOp Proofs.Tryz.prog h' 25 v none (some (KN m)) none = some v' ∧ ShSl h v' (l.take m) := by
  obtain ⟨a, c⟩ := s
  obtain ⟨v', e1, e2⟩ := a.slice kp (P := Proofs.Tryz.prog) (t := 25) u25 sz30 (l := 0) (m := m) (Nat.zero_le _) hm (lo := none) (hi := some (KN m)) rfl (fun c hc => natOf_nat (k := .i64) (by omega))
  refine ⟨v', e1, ?_, by rw [List.length_take]; omega, fun p hp => c p (List.mem_of_mem_take hp)⟩
  rw [List.length_take, Nat.min_eq_left hm, shL_take]
  simpa using e2
end Go.Id

/-! Contracts: the laws' helpers: short shares of drafts; a list made as long as the limit. -/
namespace Go.Id
open Go
/-- A draft's cells. -/
def DrOf (cs : List Value) : Prop := ∃ b x n b2 x2 n2, cs = [.bool b, x, .int .u32 n, .bool b2, x2, .int .u32 n2] ∧ cellOK x = true ∧ cellOK x2 = true ∧ 0 ≤ n ∧ n < 4294967296 ∧ 0 ≤ n2 ∧ n2 < 4294967296
/-- A slice of drafts. -/
def DrSl (h : IH) (v : Value) (n : Nat) : Prop := ∃ cs, SlOf h 6 v n cs ∧ ∀ i, i < n → DrOf ((cs.drop (i * 6)).take 6)
theorem DrSl.keep {h h' : IH} {v : Value} {n : Nat} (s : DrSl h v n) (e : Keep h h') : DrSl h' v n := let ⟨cs, a, b⟩ := s; ⟨cs, a.keep e, b⟩
/-- A short share. -/
def isShort (p : Nat × Nat) : Prop := ∃ a c : Int, (-1000 < a ∧ a < 1000) ∧ (0 < c ∧ c < 25) ∧ p = shq (Rat.divInt a c)
theorem isShort.lt {p : Nat × Nat} (h : isShort p) : p.1 < W8 ∧ p.2 < W8 := by
  obtain ⟨a, c, ha, hc, rfl⟩ := h
  exact shq_lt (qw_div ⟨by omega, by omega⟩ ⟨by omega, by omega⟩ (by omega))
set_option maxHeartbeats 1000000 in
theorem shorts_ok {h : IH} {v : Value} {n : Nat} (hv : DrSl h v n) :
    WV Proofs.Tryz.prog (.func (.func 19) #[] #[]) [v] h fun r h' => Ext h h' ∧ ∃ l', ShSl h' r l' ∧ l'.length = min n 12 ∧ (∀ p ∈ l', isShort p) ∧ (l' = [] → r = .slice none 0 0) := by
  obtain ⟨M, hM⟩ : ∃ M, M = min n 12 := ⟨_, rfl⟩
  obtain ⟨cs, hsl, hdr⟩ := hv
  obtain ⟨w, hw, hs⟩ := hsl.slice (Keep.refl h) (P := Proofs.Tryz.prog) (t := 23) u23 sz36 (l := 0) (m := M) (Nat.zero_le _) (by omega) (lo := none) (hi := some (KN M)) rfl (fun c hc => natOf_nat (k := .i64) (by omega))
  rw [Nat.sub_zero, Nat.zero_mul, List.drop_zero] at hs
  have hcl := hsl.2.1
  have hmin : (if (12 : Int) < (n : Int) then (12 : Int) else (n : Int)) = (M : Int) := by split <;> omega
  refine enter (nt := 23) (rs := [.tmp 2]) Proofs.Tryz.func19 rfl rfl rfl (by simp) ?_
  simp -dsimp (disch := omega) only [wpS, Nat.reduceEqDiff, hsl.len sl23, min_ii, hmin, hw, hs.len sl23]
  refine loop (fun m fr hh => ∃ (i : Nat) (out : Value) (l' : List (Nat × Nat)), i + m = M ∧ l'.length = i ∧ (∀ p ∈ l', isShort p) ∧ Ext h hh ∧ Acc hh h.n 16 out l'.length (shL l') ∧ (l' = [] → out = .slice none 0 0) ∧ fget fr 3 = some out ∧ fget fr 10 = some w ∧ fget fr 11 = some (KN M) ∧ fget fr 12 = some (KN i)) M
    ⟨0, .slice none 0 0, [], by omega, rfl, (fun p hp => by cases hp), Ext.refl _, Acc.nil _ _ (by omega), fun _ => rfl, by simp, by simp, by simp, by simp⟩ ?_
  rintro m fr hh ⟨i, out, l', him, hil, hlt, hE, hA, hO, f3, f10, f11, f12⟩
  have hnn := hE.n
  simp -dsimp (disch := omega) only [wpS, f11, f12]
  refine bq_intro ?_ ?_ <;> intro hc <;> simp only [decide_eq_true_eq, decide_eq_false_iff_not] at hc
  · have hi : i < M := by omega
    have hld := hs.ldAgg hE.keep (c := i * 6) (m := 6) (by rw [List.length_take]; omega) (by omega) (P := Proofs.Tryz.prog) (t := 36) ag36 sz36
    rw [List.drop_take, List.take_take, Nat.min_eq_left (by omega)] at hld
    obtain ⟨b, x, n1, b2, x2, n2, hcs, hx, hx2, q1, q2, q3, q4⟩ := hdr i (by omega)
    rw [hcs] at hld
    obtain ⟨H0, hH0⟩ : ∃ H0, H0 = (hh.new (.cells [.bool false, .slice none 0 0, .int .u32 0, .bool false, .slice none 0 0, .int .u32 0] 0 none)).put hh.n (.cells [.bool b, x, .int .u32 n1, .bool b2, x2, .int .u32 n2] 0 none) := ⟨_, rfl⟩
    have n0 : H0.n = hh.n + 1 := by rw [hH0]; rfl
    have k0 : H0.ext.get hh.n = some (.cells [.bool b, x, .int .u32 n1, .bool b2, x2, .int .u32 n2] 0 none) := by rw [hH0]; simp (disch := first | omega | (simp only [new_n, put_n]; omega) | (repeat first | rw [new_n] | rw [put_n])) only [get_put_same]
    have E0 : Ext hh H0 := by rw [hH0]; exact ((Ext.refl hh).new _).put (by omega) _
    simp -dsimp (disch := omega) only [wpS, wpT, Nat.reduceEqDiff, Nat.reduceLeDiff, Nat.reduceAdd, zc36, st36, f10, f12, hs.idx es23 hi, hld, hx, hx2]
    rw [← hH0]
    clear hH0
    simp -dsimp (disch := omega) only [wpS, wpT, Nat.reduceEqDiff, Nat.reduceLeDiff, Nat.reduceAdd, ld36, f3, row_of k0]
    refine call (drshort_ok (by simpa using hx) (by simpa using hx2) q1 q2 q3 q4) ?_
    rintro _ h1 ⟨X1, a, c, ha, hc2, rfl⟩
    have m1 := X1.n
    have sp : isShort (shq (Rat.divInt a c)) := ⟨a, c, ha, hc2, rfl⟩
    rw [shareV_shq]
    generalize shq (Rat.divInt a c) = p at sp ⊢
    have E1 := E0.trans X1
    obtain ⟨out', h8, hap, hA8, hG8, hE8⟩ := (hA.ext E1).appN (P := Proofs.Tryz.prog) (t := 25) ap25 (m := 1) (new := shC p.1 p.2) (by omega) (by rw [shC_len]) (shC_all _ _) (by omega) (by omega) (hE.trans E1) (Nat.le_refl _)
    have hap' : append Proofs.Tryz.prog (h1.new (.cells (shC p.1 p.2) 16 none)) 25 out (.slice (some ⟨2 * h1.n, 0, none⟩) 1 3) = some (out', h8) := hap
    simp -dsimp (disch := omega) only [wpS, wpT, Nat.reduceEqDiff, Nat.reduceLeDiff, Nat.reduceAdd, bs25, ba25_25, f12, shV_cells, shC_len, sh_sp3, hap']
    refine ⟨m - 1, by omega, i + 1, out', l' ++ [p], by omega, by simp [hil], ?_, hE8, ?_, by simp, by simp, by simp [f10], by simp [f11], by simp⟩
    · intro q hq
      rcases List.mem_append.1 hq with hq | hq
      · exact hlt q hq
      · obtain rfl := List.mem_singleton.1 hq
        exact sp
    · rw [shL_snoc, List.length_append]
      exact hA8
  · obtain rfl : i = M := by omega
    simp -dsimp (disch := omega) only [wpS, wpT, Nat.reduceEqDiff, f3]
    refine ⟨hE, l', ⟨hA.sl, by omega, fun p hp => (hlt p hp).lt⟩, by omega, hlt, hO⟩
/-- One, as a share. -/
def oneS : Nat × Nat := shI 1
theorem oneS_lt : oneS.1 < W8 ∧ oneS.2 < W8 := shI_lt ⟨by omega, by omega⟩
theorem one_shV : shareV (Rat.divInt 1 1) = shV oneS.1 oneS.2 := by
  have : Rat.divInt 1 1 = ((1 : Int) : Rat) := Rat.num_divInt_den ((1 : Int) : Rat)
  rw [this]; rfl
abbrev longT (more : Bool) : Nat := if more then 201 else 200
/-- A list made as long as the limit, or longer by one. -/
def longL (l : List (Nat × Nat)) (more : Bool) : List (Nat × Nat) := l ++ List.replicate (longT more - l.length) oneS
set_option maxHeartbeats 1000000 in
theorem long_ok {h : IH} {v : Value} {l : List (Nat × Nat)} {more : Bool} (hv : ShSl h v l) (hne : l = [] → v = .slice none 0 0) (hl : l.length ≤ 200) :
    WV Proofs.Tryz.prog (.func (.func 27) #[] #[]) [v, .bool more] h fun r h' => Ext h h' ∧ ShSl h' r (longL l more) := by
  have hlt := hv.2.2
  obtain ⟨T, hT⟩ : ∃ T, T = longT more := ⟨_, rfl⟩
  have hT2 : T = 200 ∨ T = 201 := by rw [hT]; cases more <;> simp
  unfold longL
  rw [← hT]
  refine enter (nt := 30) (rs := [.tmp 4]) Proofs.Tryz.func27 rfl rfl rfl (by simp) ?_
  simp -dsimp (disch := omega) only [wpS, Nat.reduceEqDiff, Nat.reduceAdd]
  refine call (shclone_ok hv (by cases l with
    | nil => exact .inl (hne rfl)
    | cons a b => exact .inr (by simp)) (by omega)) ?_
  rintro out0 h1 ⟨X1, A1⟩
  have m1 := X1.n
  simp -dsimp (disch := omega) only [wpS, Nat.reduceEqDiff]
  refine call (ref02Of_ok 1 1 ⟨by omega, by omega⟩ ⟨by omega, by omega⟩ (by omega)) ?_
  rintro _ h2 ⟨X2, rfl⟩
  rw [one_shV]
  have m2 := X2.n
  obtain ⟨H0, hH0⟩ : ∃ H0, H0 = (h2.new (.cells Z16 0 none)).put h2.n (.cells (shC oneS.1 oneS.2) 0 none) := ⟨_, rfl⟩
  have n0 : H0.n = h2.n + 1 := by rw [hH0]; rfl
  have k0 : H0.ext.get h2.n = some (.cells (shC oneS.1 oneS.2) 0 none) := by rw [hH0]; simp (disch := first | omega | (simp only [new_n, put_n]; omega) | (repeat first | rw [new_n] | rw [put_n])) only [get_put_same]
  have E0 : Ext h2 H0 := by rw [hH0]; exact ((Ext.refl h2).new _).put (by omega) _
  simp -dsimp (disch := omega) only [wpS, wpT, Nat.reduceEqDiff, Nat.reduceLeDiff, Nat.reduceAdd, zc30, st30, shV_cells, shC_len, shC_all, sh_sp3]
  rw [← hH0]
  clear hH0
  refine loop (fun m fr hh => ∃ (j : Nat) (out : Value), j + m = T - l.length ∧ Acc hh h.n 16 out (l.length + j) (shL (l ++ List.replicate j oneS)) ∧ Ext h hh ∧ h2.n < hh.n ∧ hh.ext.get h2.n = some (.cells (shC oneS.1 oneS.2) 0 none) ∧ fget fr 1 = some (.bool more) ∧ fget fr 5 = some out ∧ fget fr 6 = some (ptr (2 * h2.n) 0)) (T - l.length)
    ⟨0, out0, by omega, by simpa using A1.ext (X2.trans E0), (X1.trans X2).trans E0, by omega, k0, by simp, by simp, by simp⟩ ?_
  rintro m fr hh ⟨j, out, hjm, hA, hE, hkb, kk, f1, f5, f6⟩
  have hnn := hE.n
  by_cases c1 : l.length + j < 200
  · have d1 : decide (((l.length + j : Nat) : Int) < 200) = true := decide_eq_true (by omega)
    simp -dsimp (disch := omega) only [wpS, wpT, Nat.reduceEqDiff, f5, hA.sl.len sl25, d1]
    have hr := row_of kk
    simp -dsimp (disch := omega) only [wpS, wpT, Nat.reduceEqDiff, Nat.reduceLeDiff, Nat.reduceAdd, ld30, bs25, ba25_25, f6, hr, shC_len, sh_take]
    obtain ⟨out', h8, hap, hA8, hG8, hE8⟩ := hA.appN (P := Proofs.Tryz.prog) (t := 25) ap25 (m := 1) (new := shC oneS.1 oneS.2) (by omega) (by rw [shC_len]) (shC_all _ _) (by omega) (by omega) hE (Nat.le_refl _)
    have hap' : append Proofs.Tryz.prog (hh.new (.cells (shC oneS.1 oneS.2) 16 none)) 25 out (.slice (some ⟨2 * hh.n, 0, none⟩) 1 3) = some (out', h8) := hap
    simp -dsimp (disch := omega) only [wpS, Nat.reduceEqDiff, sh_sp3, hap']
    have g8 := hG8.n
    refine ⟨m - 1, by omega, j + 1, out', by omega, ?_, hE8, by omega, hG8.var hkb kk, by simp [f1], by simp, by simp [f6]⟩
    rw [List.replicate_succ', ← List.append_assoc, shL_snoc]
    exact hA8
  · have d1 : decide (((l.length + j : Nat) : Int) < 200) = false := decide_eq_false (by omega)
    cases more with
    | false =>
      simp -dsimp (disch := omega) only [wpS, wpT, Nat.reduceEqDiff, f1, f5, hA.sl.len sl25, d1]
      have hT3 : T = 200 := by rw [hT]; rfl
      skip
      obtain rfl : j = T - l.length := by omega
      refine ⟨hE, ⟨?_, by rw [List.length_append, List.length_replicate]; omega, ?_⟩⟩
      · rw [List.length_append, List.length_replicate]
        exact hA.sl
      · intro p hp
        rcases List.mem_append.1 hp with hp | hp
        · exact hlt p hp
        · obtain ⟨_, rfl⟩ := List.mem_replicate.1 hp
          exact oneS_lt
    | true =>
      have hT3 : T = 201 := by rw [hT]; rfl
      by_cases c2 : l.length + j < 201
      · have d2 : decide (((l.length + j : Nat) : Int) < 201) = true := decide_eq_true (by omega)
        simp -dsimp (disch := omega) only [wpS, wpT, Nat.reduceEqDiff, f1, f5, hA.sl.len sl25, d1, d2]
        have hr := row_of kk
        simp -dsimp (disch := omega) only [wpS, wpT, Nat.reduceEqDiff, Nat.reduceLeDiff, Nat.reduceAdd, ld30, bs25, ba25_25, f6, hr, shC_len, sh_take]
        obtain ⟨out', h8, hap, hA8, hG8, hE8⟩ := hA.appN (P := Proofs.Tryz.prog) (t := 25) ap25 (m := 1) (new := shC oneS.1 oneS.2) (by omega) (by rw [shC_len]) (shC_all _ _) (by omega) (by omega) hE (Nat.le_refl _)
        have hap' : append Proofs.Tryz.prog (hh.new (.cells (shC oneS.1 oneS.2) 16 none)) 25 out (.slice (some ⟨2 * hh.n, 0, none⟩) 1 3) = some (out', h8) := hap
        simp -dsimp (disch := omega) only [wpS, Nat.reduceEqDiff, sh_sp3, hap']
        have g8 := hG8.n
        refine ⟨m - 1, by omega, j + 1, out', by omega, ?_, hE8, by omega, hG8.var hkb kk, by simp [f1], by simp, by simp [f6]⟩
        rw [List.replicate_succ', ← List.append_assoc, shL_snoc]
        exact hA8
      · have d2 : decide (((l.length + j : Nat) : Int) < 201) = false := decide_eq_false (by omega)
        simp -dsimp (disch := omega) only [wpS, wpT, Nat.reduceEqDiff, f1, f5, hA.sl.len sl25, d1, d2]
        skip
        obtain rfl : j = T - l.length := by omega
        refine ⟨hE, ⟨?_, by rw [List.length_append, List.length_replicate]; omega, ?_⟩⟩
        · rw [List.length_append, List.length_replicate]
          exact hA.sl
        · intro p hp
          rcases List.mem_append.1 hp with hp | hp
          · exact hlt p hp
          · obtain ⟨_, rfl⟩ := List.mem_replicate.1 hp
            exact oneS_lt
end Go.Id

/-! The rows' common part (no table listed): shares and drafts that came in. -/
namespace Go.Proofs.YthbkinefgmfgeaaGreat
open Go.ChangeShapes Go.WideShapes Go.ChangeAt Go.RowKit Go.Id
theorem Tryz.own : ownKnob Tryz.prog.godebug = none := by kernel_rfl
theorem Tryz.laidOut : laidOutB Tryz.prog = true := by kernel_rfl
theorem Tryz.mapsOut : mapsRowed Tryz.prog = true := by kernel_rfl
theorem Tryz.kids : Kids Tryz.prog (· < Tryz.prog.types.size) := kids_rows Tryz.laidOut Tryz.mapsOut
theorem Tryz.slices : ((List.range Tryz.prog.types.size).all fun t => match Tryz.prog.underlying t with
  | some (.slice e) => decide (0 < Tryz.prog.cellsOf e)
  | _ => true) = true := by kernel_rfl
theorem Tryz.pos {t e : TypeId} (h : t < Tryz.prog.types.size) (hu : Tryz.prog.underlying t = some (.slice e)) : 0 < Tryz.prog.cellsOf e := by
  have := List.all_eq_true.1 Tryz.slices t (by simpa using h)
  rw [hu] at this
  simpa using this
theorem Tryz.sound : Sound (E0 Tryz.prog) := sound0 (by kernel_rfl) (by kernel_rfl)
theorem u_share : Tryz.prog.underlying 30 = some (.struct { toList := [{ name := "N", type := 28, offset := 0, embedded := false, tag := "", pkgPath := "", byteOffset := 0 }, { name := "D", type := 28, offset := 8, embedded := false, tag := "", pkgPath := "", byteOffset := 64 }] }) := by kernel_rfl
theorem u_wide : Tryz.prog.underlying 28 = some (.array 8 26) := by kernel_rfl
theorem u_u64 : Tryz.prog.underlying 26 = some (.int .u64) := by kernel_rfl
theorem c_share : Tryz.prog.cellsOf 30 = 16 := by kernel_rfl
theorem c_wide : Tryz.prog.cellsOf 28 = 8 := by kernel_rfl
theorem c_u64 : Tryz.prog.cellsOf 26 = 1 := by kernel_rfl
theorem u_shares : Tryz.prog.underlying 25 = some (.slice 30) := by kernel_rfl
theorem wf_i64 {x : Int} (h : (Lit.int .i64 x).wf = true) : In64 x := by
  simp only [Lit.wf, Bool.and_eq_true, decide_eq_true_eq] at h
  have h1 : (-9223372036854775808 : Int) ≤ x := h.1
  have h2 : x ≤ (9223372036854775807 : Int) := h.2
  exact ⟨h1, by omega⟩
theorem digs_of : ∀ {cs : List Value}, (∀ c ∈ cs, ∃ k : Nat, k < 18446744073709551616 ∧ c = K64 k) → ∃ ds : List Nat, cs = ds.map K64 ∧ ∀ d ∈ ds, d < 18446744073709551616
  | [], _ => ⟨[], rfl, fun d hd => by cases hd⟩
  | c :: cs, h => by
    obtain ⟨k, hk, rfl⟩ := h c (by simp)
    obtain ⟨ds, hds, hd⟩ := digs_of (cs := cs) fun c hc => h c (by simp [hc])
    exact ⟨k :: ds, by rw [hds]; rfl, fun d hd' => by
      rcases List.mem_cons.1 hd' with rfl | hd'
      · exact hk
      · exact hd d hd'⟩
section
variable {H : Type} {enc : TypeId × Value → H} {W : World} {base : Nat} {sp : Nat → Bool} {held : Bool}
theorem wide_of {fuel : Nat} {cs : List Value} {x : DataW H × List MemPlace} (h : DataW.trod enc Tryz.prog W base sp held fuel 28 cs = some x) : ∃ n, n < W8 ∧ cs = wdC n := by
  obtain ⟨xs, m, _, _, hl, hn, hel⟩ := DataW.trod_array u_wide h
  rw [c_wide] at hl
  have hc : ∀ c ∈ cs, ∃ k : Nat, k < 18446744073709551616 ∧ c = K64 k := by
    intro c hc
    obtain ⟨i, hi⟩ := List.mem_iff_getElem?.1 hc
    have hi8 : i < 8 := by have := (List.getElem?_eq_some_iff.1 hi).1; omega
    obtain ⟨y, hy⟩ : ∃ y, xs[i]? = some y := ⟨_, List.getElem?_eq_getElem (by omega)⟩
    have e := (hel i hi8).trans hy
    rw [c_u64, Nat.mul_one] at e
    have e1 : (cs.drop i).take 1 = [c] := by
      obtain ⟨hlt, hg⟩ := List.getElem?_eq_some_iff.1 hi
      rw [List.drop_eq_getElem_cons hlt, hg]
      rfl
    rw [e1] at e
    obtain ⟨k, h1, h2⟩ := trod_nat (m := 18446744073709551615) rfl rfl u_u64 e
    cases h1
    exact ⟨k, by omega, rfl⟩
  obtain ⟨ds, rfl, hd⟩ := digs_of hc
  rw [List.length_map] at hl
  have e := pad_wd (ds := ds) (by omega) hd
  have e2 : IH.splice [ZW, ZW, ZW, ZW, ZW, ZW, ZW, ZW] 0 (ds.map K64) = ds.map K64 := splice_all (by rw [List.length_map, hl]; rfl)
  refine ⟨B.valD ds, ?_, e2.symm.trans e⟩
  have := B.valD_lt hd
  rw [hl, ← W8_pw] at this
  exact this
theorem share_of {fuel : Nat} {cs : List Value} {x : DataW H × List MemPlace} (h : DataW.trod enc Tryz.prog W base sp held fuel 30 cs = some x) : ∃ n d, n < W8 ∧ d < W8 ∧ cs = shC n d := by
  obtain ⟨xs, m, _, _, hl, hn, hf⟩ := DataW.trod_struct u_share h
  rw [c_share] at hl
  have hn2 : xs.length = 2 := hn
  obtain ⟨x0, hx0⟩ : ∃ y, xs[0]? = some y := ⟨_, List.getElem?_eq_getElem (by omega)⟩
  have f0 : DataW.trod enc Tryz.prog W base sp held m 28 ((cs.drop 0).take (Tryz.prog.cellsOf 28)) = some x0 := (hf 0 { name := "N", type := 28, offset := 0, embedded := false, tag := "", pkgPath := "", byteOffset := 0 } rfl).trans hx0
  obtain ⟨x1, hx1⟩ : ∃ y, xs[1]? = some y := ⟨_, List.getElem?_eq_getElem (by omega)⟩
  have f1 : DataW.trod enc Tryz.prog W base sp held m 28 ((cs.drop 8).take (Tryz.prog.cellsOf 28)) = some x1 := (hf 1 { name := "D", type := 28, offset := 8, embedded := false, tag := "", pkgPath := "", byteOffset := 64 } rfl).trans hx1
  rw [c_wide] at f0 f1
  obtain ⟨n, h1, e1⟩ := wide_of f0
  obtain ⟨d, h2, e2⟩ := wide_of f1
  refine ⟨n, d, h1, h2, ?_⟩
  rw [shC, ← e1, ← e2, List.drop_zero]
  conv => lhs; rw [← List.take_append_drop 8 cs]
  congr 1
  rw [List.take_of_length_le (by rw [List.length_drop]; omega)]
end
theorem map_scal {cs : List Value} (h : ∀ y ∈ cs, scal y = true) : cs.map trV = cs := by
  induction cs with
  | nil => rfl
  | cons a l ih => rw [List.map_cons, trV_scal (h a (by simp)), ih fun y hy => h y (by simp [hy])]
theorem scal_tell {y : Value} (h : scal y = true) : tellable y = true := by
  unfold tellable
  split
  · simp [scal] at h
  · exact h
theorem shC_scal (n d : Nat) : ∀ y ∈ shC n d, scal y = true := by
  intro y hy
  simp only [shC, wdC, List.mem_append, List.mem_map] at hy
  rcases hy with ⟨i, _, rfl⟩ | ⟨i, _, rfl⟩ <;> rfl
/-- Shares, one after the other. -/
theorem shares_of : ∀ (n : Nat) (cs : List Value), cs.length = n * 16 → (∀ i, i < n → ∃ p : Nat × Nat, (p.1 < W8 ∧ p.2 < W8) ∧ (cs.drop (i * 16)).take 16 = shC p.1 p.2) → ∃ l : List (Nat × Nat), l.length = n ∧ shL l = cs ∧ ∀ p ∈ l, p.1 < W8 ∧ p.2 < W8
  | 0, cs, hl, _ => ⟨[], rfl, (List.length_eq_zero_iff.1 (by omega)).symm, fun p hp => by cases hp⟩
  | n + 1, cs, hl, h => by
    obtain ⟨p, hp, e⟩ := h 0 (by omega)
    obtain ⟨l, h1, h2, h3⟩ := shares_of n (cs.drop 16) (by rw [List.length_drop]; omega) fun i hi => by
      obtain ⟨q, hq, e⟩ := h (i + 1) (by omega)
      refine ⟨q, hq, ?_⟩
      rw [List.drop_drop, ← e]
      congr 2
      omega
    refine ⟨p :: l, by simp [h1], ?_, ?_⟩
    · rw [Nat.zero_mul, List.drop_zero] at e
      show shC p.1 p.2 ++ shL l = cs
      rw [← e, h2, List.take_append_drop]
    · intro q hq
      rcases List.mem_cons.1 hq with rfl | hq
      · exact hp
      · exact h3 q hq
theorem len3 {α : Type} : ∀ {l : List α}, l.length = 3 → ∃ a b c, l = [a, b, c]
  | [a, b, c], _ => ⟨a, b, c, rfl⟩
theorem len6 {α : Type} : ∀ {l : List α}, l.length = 6 → ∃ a b c d e f, l = [a, b, c, d, e, f]
  | [a, b, c, d, e, f], _ => ⟨a, b, c, d, e, f, rfl⟩
theorem u_drafts : Tryz.prog.underlying 23 = some (.slice 36) := by kernel_rfl
theorem u_draft : Tryz.prog.underlying 36 = some (.struct { toList := [{ name := "N", type := 34, offset := 0, embedded := false, tag := "", pkgPath := "", byteOffset := 0 }, { name := "D", type := 34, offset := 3, embedded := false, tag := "", pkgPath := "", byteOffset := 40 }] }) := by kernel_rfl
theorem u_draft1 : Tryz.prog.underlying 34 = some (.struct { toList := [{ name := "Below", type := 4, offset := 0, embedded := false, tag := "", pkgPath := "", byteOffset := 0 }, { name := "Bits", type := 31, offset := 1, embedded := false, tag := "", pkgPath := "", byteOffset := 8 }, { name := "Less", type := 32, offset := 2, embedded := false, tag := "", pkgPath := "", byteOffset := 32 }] }) := by kernel_rfl
theorem u_u16s : Tryz.prog.underlying 31 = some (.slice 209) := by kernel_rfl
theorem u_u16 : Tryz.prog.underlying 209 = some (.int .u16) := by kernel_rfl
theorem u_u32 : Tryz.prog.underlying 32 = some (.int .u32) := by kernel_rfl
theorem u_bool : Tryz.prog.underlying 4 = some .bool := by kernel_rfl
theorem u_int : Tryz.prog.underlying 3 = some (.int .i64) := by kernel_rfl
theorem c_draft : Tryz.prog.cellsOf 36 = 6 := by kernel_rfl
theorem c_draft1 : Tryz.prog.cellsOf 34 = 3 := by kernel_rfl
theorem c_u16 : Tryz.prog.cellsOf 209 = 1 := by kernel_rfl
theorem c_u32 : Tryz.prog.cellsOf 32 = 1 := by kernel_rfl
theorem c_bool : Tryz.prog.cellsOf 4 = 1 := by kernel_rfl
theorem c_u16s : Tryz.prog.cellsOf 31 = 1 := by kernel_rfl
section
variable {H : Type} {enc : TypeId × Value → H} {W : World} {held : Bool}
/-- A slice of shares. -/
theorem tell_shares (G : Nat → Option (List Value)) {fuel : Nat} {cs0 : List Value} {x : DataW H × List MemPlace} (h : DataW.trod enc Tryz.prog W 0 (fun _ => true) held fuel 25 cs0 = some x) :
    ∃ v l, cs0 = [v] ∧ tellable v = true ∧ ShArg (IH.start (tellB G W)) (trV v) l := by
  obtain ⟨v, n, cs, e, ht, hn, hs, hR⟩ := tell_slice (R := fun cs => ∃ p : Nat × Nat, (p.1 < W8 ∧ p.2 < W8) ∧ cs.map trV = shC p.1 p.2) u_shares c_share (by omega) (fun n cs x hx => by
    obtain ⟨a, d, h1, h2, rfl⟩ := share_of hx
    exact ⟨⟨(a, d), ⟨h1, h2⟩, map_scal (shC_scal a d)⟩, fun y hy => scal_tell (shC_scal a d y hy)⟩) G h
  obtain ⟨l, h1, h2, h3⟩ := shares_of n (cs.map trV) hs.2.1 fun i hi => by
    obtain ⟨p, hp, e⟩ := hR i hi
    exact ⟨p, hp, by rw [← List.map_drop, ← List.map_take]; exact e⟩
  refine ⟨v, l, e, ht, ?_, h3⟩
  rw [h1, h2]; exact hs
/-- One half of a draft. -/
theorem half_of (G : Nat → Option (List Value)) {fuel : Nat} {cs : List Value} {x : DataW H × List MemPlace} (h : DataW.trod enc Tryz.prog W 0 (fun _ => true) held fuel 34 cs = some x) :
    ∃ b y n, cs = [.bool b, y, .int .u32 n] ∧ cellOK (trV y) = true ∧ tellable y = true ∧ (0 ≤ n ∧ n < 4294967296) := by
  obtain ⟨xs, m, _, _, hl, hn, hf⟩ := DataW.trod_struct u_draft1 h
  rw [c_draft1] at hl
  have hn2 : xs.length = 3 := hn
  obtain ⟨x0, hx0⟩ : ∃ y, xs[0]? = some y := ⟨_, List.getElem?_eq_getElem (by omega)⟩
  have f0 : DataW.trod enc Tryz.prog W 0 (fun _ => true) held m 4 ((cs.drop 0).take (Tryz.prog.cellsOf 4)) = some x0 := (hf 0 { name := "Below", type := 4, offset := 0, embedded := false, tag := "", pkgPath := "", byteOffset := 0 } rfl).trans hx0
  obtain ⟨x1, hx1⟩ : ∃ y, xs[1]? = some y := ⟨_, List.getElem?_eq_getElem (by omega)⟩
  have f1 : DataW.trod enc Tryz.prog W 0 (fun _ => true) held m 31 ((cs.drop 1).take (Tryz.prog.cellsOf 31)) = some x1 := (hf 1 { name := "Bits", type := 31, offset := 1, embedded := false, tag := "", pkgPath := "", byteOffset := 8 } rfl).trans hx1
  obtain ⟨x2, hx2⟩ : ∃ y, xs[2]? = some y := ⟨_, List.getElem?_eq_getElem (by omega)⟩
  have f2 : DataW.trod enc Tryz.prog W 0 (fun _ => true) held m 32 ((cs.drop 2).take (Tryz.prog.cellsOf 32)) = some x2 := (hf 2 { name := "Less", type := 32, offset := 2, embedded := false, tag := "", pkgPath := "", byteOffset := 32 } rfl).trans hx2
  rw [c_bool] at f0
  rw [c_u16s] at f1
  rw [c_u32] at f2
  obtain ⟨a, y, c, rfl⟩ := len3 hl
  · obtain ⟨b, e0, _⟩ := DataW.trod_bool u_bool f0
    obtain ⟨v, n, cs', e1, ht, hn', hs, _⟩ := tell_slice (R := fun _ => True) u_u16s c_u16 (by omega) (fun n cs x hx => by
      obtain ⟨k, rfl, _⟩ := trod_nat (m := 65535) rfl rfl u_u16 hx
      exact ⟨trivial, fun y hy => by rw [List.mem_singleton.1 hy]; rfl⟩) G f1
    obtain ⟨k, e2, hk⟩ := trod_nat (m := 4294967295) rfl rfl u_u32 f2
    cases e0; cases e1; cases e2
    exact ⟨b, _, k, rfl, hs.cok, ht, by omega, by omega⟩
/-- A slice of drafts. -/
theorem tell_drafts (G : Nat → Option (List Value)) {fuel : Nat} {cs0 : List Value} {x : DataW H × List MemPlace} (h : DataW.trod enc Tryz.prog W 0 (fun _ => true) held fuel 23 cs0 = some x) :
    ∃ v n, cs0 = [v] ∧ tellable v = true ∧ DrSl (IH.start (tellB G W)) (trV v) n := by
  obtain ⟨v, n, cs, e, ht, hn, hs, hR⟩ := tell_slice (R := fun cs => DrOf (cs.map trV)) u_drafts c_draft (by omega) (fun n cs x hx => by
    obtain ⟨xs, m, _, _, hl, hn, hf⟩ := DataW.trod_struct u_draft hx
    rw [c_draft] at hl
    have hn2 : xs.length = 2 := hn
    obtain ⟨x0, hx0⟩ : ∃ y, xs[0]? = some y := ⟨_, List.getElem?_eq_getElem (by omega)⟩
    have f0 : DataW.trod enc Tryz.prog W 0 (fun _ => true) held m 34 ((cs.drop 0).take (Tryz.prog.cellsOf 34)) = some x0 := (hf 0 { name := "N", type := 34, offset := 0, embedded := false, tag := "", pkgPath := "", byteOffset := 0 } rfl).trans hx0
    obtain ⟨x1, hx1⟩ : ∃ y, xs[1]? = some y := ⟨_, List.getElem?_eq_getElem (by omega)⟩
    have f1 : DataW.trod enc Tryz.prog W 0 (fun _ => true) held m 34 ((cs.drop 3).take (Tryz.prog.cellsOf 34)) = some x1 := (hf 1 { name := "D", type := 34, offset := 3, embedded := false, tag := "", pkgPath := "", byteOffset := 40 } rfl).trans hx1
    rw [c_draft1] at f0 f1
    obtain ⟨a, b, c, d, e, f, rfl⟩ := len6 hl
    · obtain ⟨b1, y1, n1, e0, o1, t1, r1⟩ := half_of G f0
      obtain ⟨b2, y2, n2, e1, o2, t2, r2⟩ := half_of G f1
      cases e0; cases e1
      refine ⟨⟨b1, _, n1, b2, _, n2, rfl, o1, o2, r1.1, r1.2, r2.1, r2.2⟩, fun y hy => ?_⟩
      simp at hy
      rcases hy with rfl | rfl | rfl | rfl | rfl | rfl <;> first | rfl | assumption) G h
  refine ⟨v, n, e, ht, cs.map trV, hs, fun i hi => ?_⟩
  rw [← List.map_drop, ← List.map_take]
  exact hR i hi
end
end Go.Proofs.YthbkinefgmfgeaaGreat

/-! Contracts: package diagnose: what is wrong with several chains. -/
namespace Go.Id
open Go
/-- A list of lists of shares. -/
def ShLs (h : IH) (v : Value) (ll : List (List (Nat × Nat))) : Prop := ∃ vs : List Value, SlOf h 1 v ll.length vs ∧ ll.length < 1152921504606846976 ∧ ∀ (i : Nat) (x : List (Nat × Nat)), ll[i]? = some x → ∃ w, vs[i]? = some w ∧ ShSl h w x
theorem ShLs.keep {h h' : IH} {v : Value} {ll : List (List (Nat × Nat))} (s : ShLs h v ll) (e : Keep h h') : ShLs h' v ll := by
  obtain ⟨vs, a, b, c⟩ := s
  refine ⟨vs, a.keep e, b, fun i x hx => ?_⟩
  obtain ⟨w, h1, h2⟩ := c i x hx
  exact ⟨w, h1, h2.keep e⟩
theorem ShLs.at {h h' : IH} {v : Value} {ll : List (List (Nat × Nat))} (s : ShLs h v ll) (e : Keep h h') {i : Nat} {x : List (Nat × Nat)} (hx : ll[i]? = some x) :
    ∃ w, load Proofs.Tryz.prog h' 25 (elemAddr v i) = some w ∧ ShSl h' w x ∧ ∀ k : IntKind, indexAddr Proofs.Tryz.prog 22 v (.int k (i : Int)) = some (elemAddr v i) := by
  obtain ⟨vs, a, b, c⟩ := s
  obtain ⟨w, h1, h2⟩ := c i x hx
  have hi := (List.getElem?_eq_some_iff.1 hx).1
  refine ⟨w, ?_, h2.keep e, fun k => by rw [a.idx es22 hi, Nat.mul_one]⟩
  rw [a.ld e (by rw [a.2.1]; omega) ag25]
  exact h1
theorem ShLs.co {h : IH} {v : Value} {ll : List (List (Nat × Nat))} (s : ShLs h v ll) : v.cells = #[v] ∧ cellOK v = true ∧ ∀ h', lenB Proofs.Tryz.prog h' 22 v = some (.int .i64 ll.length) := by
  obtain ⟨vs, a, _⟩ := s
  exact ⟨a.cells, a.cok, fun h' => a.len sl22 h'⟩
theorem ShSl.co {h : IH} {v : Value} {l : List (Nat × Nat)} (s : ShSl h v l) : v.cells = #[v] ∧ cellOK v = true := ⟨s.1.cells, s.1.cok⟩
set_option maxHeartbeats 1000000 in
theorem lscontains_ok {h : IH} {v F : Value} {ll : List (List (Nat × Nat))} (hv : ShLs h v ll) (p : List (Nat × Nat) → Bool) (hF : ∀ h1 w x, Ext h h1 → ShSl h1 w x → x ∈ ll → WV Proofs.Tryz.prog F [w] h1 fun r h2 => Ext h1 h2 ∧ r = .bool (p x)) :
    WV Proofs.Tryz.prog (.func (.func 104) #[] #[]) [v, F] h fun r h' => Ext h h' ∧ r = .bool (ll.any p) := by
  obtain ⟨_, _, hlen⟩ := hv.co
  have hlb := hv.choose_spec.2.1
  have hidx : WV Proofs.Tryz.prog (.func (.func 145) #[] #[]) [v, F] h fun r h' => Ext h h' ∧ ∃ c : Int, r = KI c ∧ decide (0 ≤ c) = ll.any p := by
    refine enter (nt := 19) (rs := [.tmp 4]) Proofs.Tryz.func145 rfl rfl rfl (by simp) ?_
    simp -dsimp (disch := omega) only [wpS, Nat.reduceEqDiff, Nat.reduceAdd, hlen]
    refine loop (fun m fr h1 => ∃ i : Nat, i + m = ll.length ∧ Ext h h1 ∧ (∀ j x, j < i → ll[j]? = some x → p x = false) ∧ fget fr 0 = some v ∧ fget fr 1 = some F ∧ fget fr 7 = some (KN ll.length) ∧ fget fr 8 = some (KN i)) ll.length
      ⟨0, by omega, Ext.refl _, fun j x hj => by omega, by simp, by simp, by simp, by simp⟩ ?_
    rintro m fr h1 ⟨i, him, hE, hno, f0, f1, f7, f8⟩
    simp -dsimp (disch := omega) only [wpS, f7, f8]
    refine bq_intro ?_ ?_ <;> intro hc <;> simp only [decide_eq_true_eq, decide_eq_false_iff_not] at hc
    · have hi : i < ll.length := by omega
      obtain ⟨x, hx⟩ : ∃ x, ll[i]? = some x := ⟨_, List.getElem?_eq_getElem hi⟩
      have hxm := List.mem_of_getElem? hx
      obtain ⟨w, l1, l2, l3⟩ := hv.at hE.keep hx
      simp -dsimp (disch := omega) only [wpS, wpT, Nat.reduceEqDiff, f0, f1, f8, l1, l3]
      refine call (hF h1 w x hE l2 hxm) ?_
      rintro _ h2 ⟨hE2, rfl⟩
      have E2 := hE.trans hE2
      cases hp : p x with
      | false =>
        simp -dsimp (disch := omega) only [wpS, Nat.reduceEqDiff, f8]
        refine ⟨m - 1, by omega, i + 1, by omega, E2, ?_, by simp [f0], by simp [f1], by simp [f7], by simp⟩
        intro j q hj hq
        by_cases hji : j = i
        · subst hji; rw [hx] at hq; cases hq; exact hp
        · exact hno j q (by omega) hq
      | true =>
        simp -dsimp (disch := omega) only [wpS, Nat.reduceEqDiff]
        refine ⟨E2, (i : Int), rfl, ?_⟩
        rw [decide_eq_true (by omega)]
        exact (List.any_eq_true.2 ⟨x, hxm, hp⟩).symm
    · simp -dsimp (disch := omega) only [wpS, wpT]
      refine ⟨hE, -1, rfl, ?_⟩
      rw [decide_eq_false (by omega)]
      symm
      rw [Bool.eq_false_iff]
      intro hany
      obtain ⟨x, hxm, hp⟩ := List.any_eq_true.1 hany
      obtain ⟨j, hj⟩ := List.getElem?_of_mem hxm
      have := (List.getElem?_eq_some_iff.1 hj).1
      have := hno j x (by omega) hj
      rw [hp] at this; cases this
  refine enter (nt := 9) (rs := [.tmp 4]) Proofs.Tryz.func104 rfl rfl rfl (by simp) ?_
  simp -dsimp (disch := omega) only [wpS, Nat.reduceEqDiff, Nat.reduceAdd]
  refine call hidx ?_
  rintro _ h1 ⟨hE, c, rfl, hc⟩
  simp -dsimp (disch := omega) only [wpS, wpT, Nat.reduceEqDiff, hc]
  exact hE
theorem sev1_ok {h : IH} {v : Value} {l : List (Nat × Nat)} (hv : ShSl h v l) : WV Proofs.Tryz.prog (.func (.func 105) #[] #[]) [v] h fun r h' => Ext h h' ∧ r = .bool (decide (200 < l.length)) := by
  refine enter (nt := 6) (rs := [.tmp 2]) Proofs.Tryz.func105 rfl rfl rfl (by simp) ?_
  simp -dsimp (disch := omega) only [wpS, Nat.reduceEqDiff, hv.1.len sl25]
  refine ⟨Ext.refl _, ?_⟩
  rw [decide_eq_decide.2]
  omega
/-- The first chain's length. -/
def len0 (ll : List (List (Nat × Nat))) : Nat := (ll.getD 0 []).length
theorem sev2_ok {h : IH} {v vv : Value} {b : Nat} {l : List (Nat × Nat)} {ll : List (List (Nat × Nat))} (hv : ShSl h v l) (hvv : ShLs h vv ll) (hb : h.ext.get b = some (.cells [vv] 0 none)) (h0 : 0 < ll.length) :
    WV Proofs.Tryz.prog (.func (.func 107) #[] #[ptr (2 * b) 0]) [v] h fun r h' => Ext h h' ∧ r = .bool (decide (l.length < 2 ∨ l.length ≠ len0 ll)) := by
  obtain ⟨x, hx⟩ : ∃ x, ll[0]? = some x := ⟨_, List.getElem?_eq_getElem h0⟩
  obtain ⟨w, l1, l2, l3⟩ := hvv.at (Keep.refl _) hx
  have e0 : len0 ll = x.length := by rw [len0, List.getD_eq_getElem?_getD, hx]; rfl
  rw [e0]
  have l3' : indexAddr Proofs.Tryz.prog 22 vv (.int .i64 0) = some (elemAddr vv 0) := l3 .i64
  have hr := row_of hb
  refine enter (nt := 16) (rs := [.tmp 3]) Proofs.Tryz.func107 rfl rfl rfl (by simp) ?_
  by_cases h2 : l.length < 2
  · have c1 : decide ((l.length : Int) < 2) = true := decide_eq_true (by omega)
    simp -dsimp (disch := omega) only [wpS, wpT, Nat.reduceEqDiff, Nat.reduceAdd, hv.1.len sl25, c1]
    exact ⟨Ext.refl _, by rw [decide_eq_true (Or.inl h2)]⟩
  · have c1 : decide ((l.length : Int) < 2) = false := decide_eq_false (by omega)
    simp -dsimp (disch := omega) only [wpS, wpT, Nat.reduceEqDiff, Nat.reduceAdd, ld22, hv.1.len sl25, c1, hr, l3', l1, l2.1.len sl25]
    refine ⟨Ext.refl _, ?_⟩
    by_cases hne : l.length = x.length
    · rw [decide_eq_false (by omega)]; simp; omega
    · rw [decide_eq_true (Or.inr hne)]; simp; omega
/-- What is wrong with several chains. -/
def svErr (ll : List (List (Nat × Nat))) : Int := if 8 < ll.length ∨ ll.any (fun x => decide (200 < x.length)) = true then 3 else if ll.any (fun x => decide (¬ allOk x)) = true then 20 else if ll.length < 2 ∨ ll.any (fun x => decide (x.length < 2 ∨ x.length ≠ len0 ll)) = true then 5 else 0
set_option maxHeartbeats 1000000 in
theorem several_ok {h : IH} {v : Value} {ll : List (List (Nat × Nat))} (hv : ShLs h v ll) : WV Proofs.Tryz.prog (.func (.func 51) #[] #[]) [v] h fun r h' => Ext h h' ∧ r = KI (svErr ll) := by
  obtain ⟨vc, vo, hlen⟩ := hv.co
  have E1 : Ext h (h.new (.cells [v] 0 none)) := (Ext.refl h).new _
  have g1 : (h.new (.cells [v] 0 none)).ext.get h.n = some (.cells [v] 0 none) := by simp (disch := first | omega | (simp only [new_n, put_n]; omega) | (repeat first | rw [new_n] | rw [put_n])) only [get_new_same]
  unfold svErr
  refine enter (nt := 20) (rs := [.tmp 2]) Proofs.Tryz.func51 rfl rfl rfl (by simp) ?_
  by_cases h8 : 8 < ll.length
  · have c1 : decide ((8 : Int) < (ll.length : Int)) = true := decide_eq_true (by omega)
    rw [if_pos (.inl h8)]
    simp -dsimp (disch := omega) only [wpS, wpT, Nat.reduceEqDiff, ld22, vc, hlen, c1]
    exact E1
  have c1 : decide ((8 : Int) < (ll.length : Int)) = false := decide_eq_false (by omega)
  simp -dsimp (disch := omega) only [wpS, wpT, Nat.reduceEqDiff, ld22, vc, hlen, c1]
  refine call (lscontains_ok (hv.keep E1.keep) (fun x => decide (200 < x.length)) fun h1 w x _ hw _ => sev1_ok hw) ?_
  rintro _ h1 ⟨X1, rfl⟩
  have m1 := X1.n
  simp only [new_n] at m1
  have k1 := X1.kept (by simp) g1
  cases ha1 : ll.any (fun x => decide (200 < x.length)) with
  | true =>
    rw [if_pos (.inr rfl)]
    simp -dsimp (disch := omega) only [wpS, wpT, Nat.reduceEqDiff]
    exact E1.trans X1
  | false =>
    rw [if_neg (by simp; omega)]
    simp -dsimp (disch := omega) only [wpS, Nat.reduceEqDiff, ld22, row_of k1]
    refine call (lscontains_ok (hv.keep (E1.trans X1).keep) (fun x => decide (¬ allOk x)) fun h1 w x _ hw _ => wrong_ok hw) ?_
    rintro _ h2 ⟨X2, rfl⟩
    have m2 := X2.n
    have k2 := X2.kept (by omega) k1
    cases ha2 : ll.any (fun x => decide (¬ allOk x)) with
    | true =>
      rw [if_pos rfl]
      simp -dsimp (disch := omega) only [wpS, wpT, Nat.reduceEqDiff]
      exact (E1.trans X1).trans X2
    | false =>
      rw [if_neg (by simp)]
      by_cases h2 : ll.length < 2
      · have c2 : decide ((ll.length : Int) < 2) = true := decide_eq_true (by omega)
        rw [if_pos (.inl h2)]
        simp -dsimp (disch := omega) only [wpS, wpT, Nat.reduceEqDiff, ld22, row_of k2, hlen, c2]
        exact (E1.trans X1).trans X2
      · have c2 : decide ((ll.length : Int) < 2) = false := decide_eq_false (by omega)
        simp -dsimp (disch := omega) only [wpS, wpT, Nat.reduceEqDiff, ld22, row_of k2, hlen, c2]
        have hv2 := hv.keep ((E1.trans X1).trans X2).keep
        refine call (lscontains_ok hv2 (fun x => decide (x.length < 2 ∨ x.length ≠ len0 ll)) fun h3 w x e hw _ => sev2_ok hw (hv2.keep e.keep) (e.kept (by omega) k2) (by omega)) ?_
        rintro _ h3 ⟨X3, rfl⟩
        cases ha3 : ll.any (fun x => decide (x.length < 2 ∨ x.length ≠ len0 ll)) with
        | true =>
          rw [if_pos (.inr rfl)]
          simp -dsimp (disch := omega) only [wpS, wpT, Nat.reduceEqDiff]
          exact ((E1.trans X1).trans X2).trans X3
        | false =>
          rw [if_neg (by simp; omega)]
          simp -dsimp (disch := omega) only [wpS, wpT, Nat.reduceEqDiff]
          exact ((E1.trans X1).trans X2).trans X3
end Go.Id

/-! Contracts: the reference's chapter 35: what is wrong with several chains. -/
namespace Go.Id
open Go
end Go.Id

/-! Contracts: the reference's chapter 35: autocovariances, Mean, Auto. -/
namespace Go.Id
open Go
end Go.Id

/-! Contracts: package diagnose: the variance within. -/
namespace Go.Id
open Go
set_option maxHeartbeats 2000000 in
theorem total2_ok {h : IH} {v F : Value} {ll : List (List (Nat × Nat))} (hv : ShLs h v ll) (f : List (Nat × Nat) → Rat) (k : Nat) (hF : ∀ h1 w x, Ext h h1 → ShSl h1 w x → x ∈ ll → WV Proofs.Tryz.prog F [w] h1 fun r h2 => Ext h1 h2 ∧ PRat h2 r (f x)) (hk : ∀ x ∈ ll, QB k (f x)) (hb : ll.length * (k + 1) < 16000000) :
    WV Proofs.Tryz.prog (.func (.func 108) #[] #[]) [v, F] h fun r h' => Ext h h' ∧ PRat h' r (qsum (ll.map f)) := by
  obtain ⟨_, _, hlen⟩ := hv.co
  have hlb := hv.choose_spec.2.1
  have hQ : ∀ i, i ≤ ll.length → QB (i * (k + 1)) (qsum ((ll.take i).map f)) := by
    intro i hi
    have := QB.qsum (k := k) (l := ll.map f) (by intro q hq; obtain ⟨x, hx, rfl⟩ := List.mem_map.1 hq; exact hk x hx) i (by simpa using hi)
    rwa [← List.map_take] at this
  refine enter (nt := 22) (rs := [.cell 4 83]) Proofs.Tryz.func108 rfl rfl rfl (by simp) ?_
  simp -dsimp (disch := omega) only [wpS, Nat.reduceAdd, zc83]
  have E1 : Ext h (h.new (.cells ZR 0 none)) := (Ext.refl h).new _
  have g1 : (h.new (.cells ZR 0 none)).ext.get h.n = some (.cells ZR 0 none) := by simp (disch := first | omega | (simp only [new_n, put_n]; omega) | (repeat first | rw [new_n] | rw [put_n])) only [get_new_same]
  refine call (rfrom_ok 0 ⟨by omega, by omega⟩) ?_
  rintro z h1 ⟨X1, p1⟩
  have m1 := X1.n
  simp only [new_n] at m1
  obtain ⟨a3, s3, b3, t3, rfl, _, _, d1, o1, d2, o2, o3, o4⟩ := p1.parts
  have kg := X1.kept (by simp) g1
  simp -dsimp (disch := omega) only [wpS, wpT, Nat.reduceEqDiff, Nat.reduceLeDiff, Nat.reduceAdd, zc83, st83, o1, o2, o3, o4, hlen]
  have Ex2 : Ext h1 ((h1.new (.cells ZR 0 none)).put h1.n (.cells [a3, s3, b3, t3] 0 none)) := ((Ext.refl h1).new _).put (Nat.le_refl _) _
  refine loop (fun m fr hh => ∃ (i : Nat) (a s b t : Value), i + m = ll.length ∧ Ext h hh ∧ h1.n < hh.n ∧ hh.ext.get h.n = some (.cells ZR 0 none) ∧ hh.ext.get h1.n = some (.cells [a, s, b, t] 0 none) ∧ PRat hh (.agg #[a, s, b, t]) (qsum ((ll.take i).map f)) ∧
      fget fr 1 = some F ∧ fget fr 4 = some (ptr (2 * h.n) 0) ∧ fget fr 5 = some (ptr (2 * h1.n) 0) ∧ fget fr 9 = some v ∧ fget fr 10 = some (KN ll.length) ∧ fget fr 11 = some (KN i)) ll.length
    ⟨0, a3, s3, b3, t3, by omega, (E1.trans X1).trans Ex2, by simp, by simp (disch := first | omega | (simp only [new_n, put_n]; omega) | (repeat first | rw [new_n] | rw [put_n])) only [get_new_old, get_put_old]; exact kg, by simp (disch := first | omega | (simp only [new_n, put_n]; omega) | (repeat first | rw [new_n] | rw [put_n])) only [get_put_same], p1.keep Ex2.keep, by simp, by simp, by simp, by simp, by simp, by simp⟩ ?_
  clear p1 kg Ex2
  rintro m fr hh ⟨i, a, s, b, t, him, hE, hn, hg, hg5, hp, f1, f4, f5, f9, f10, f11⟩
  simp -dsimp (disch := omega) only [wpS, f10, f11]
  refine bq_intro ?_ ?_ <;> intro hc <;> simp only [decide_eq_true_eq, decide_eq_false_iff_not] at hc
  · have hi : i < ll.length := by omega
    obtain ⟨x, hx⟩ : ∃ x, ll[i]? = some x := ⟨_, List.getElem?_eq_getElem hi⟩
    have hxm := List.mem_of_getElem? hx
    obtain ⟨w, l1, l2, l3⟩ := hv.at hE.keep hx
    simp -dsimp (disch := omega) only [wpS, wpT, Nat.reduceEqDiff, f9, f11, l1, l3]
    have X0 := Ext.refl hh
    obtain ⟨_, _, L1⟩ := pl4 hg5
    have hnn := hE.n
    refine drawn [(0, [4])] (by kernel_rfl) (by kernel_rfl) rfl ?_
    simp -dsimp (disch := omega) only [wpS, wpT, Nat.reduceEqDiff, Nat.reduceLeDiff, Nat.reduceAdd, ld83, f1, f5, row_of hg5, tk4']
    refine call (hF hh w x hE l2 hxm) ?_
    rintro r h2 ⟨X2, p2⟩
    have m2 := X2.n
    simp -dsimp (disch := omega) only [wpS, Nat.reduceEqDiff]
    have hkb : i * (k + 1) + k + 1 < 16000000 := by
      have : (i + 1) * (k + 1) ≤ ll.length * (k + 1) := Nat.mul_le_mul_right _ hi
      rw [Nat.add_mul] at this; omega
    refine call (rplus_ok (hp.keep X2.keep) p2 (hQ i (by omega)) (hk x hxm) hkb) ?_
    rintro r3 h3 ⟨hE3, p3⟩
    have m3 := hE3.n
    have X3 := X2.trans hE3
    have eT : qsum ((ll.take i).map f) + f x = qsum ((ll.take (i + 1)).map f) := by rw [take_snoc hx, List.map_append, List.map_cons, List.map_nil, qsum_snoc]
    rw [eT] at p3
    obtain ⟨a4, s4, b4, t4, rfl, _, _, _, o1, _, o2, o3, o4⟩ := p3.parts
    have k5 := X3.kept (by omega) hg5
    have kz := X3.kept (by omega) hg
    simp -dsimp (disch := omega) only [wpS, wpT, Nat.reduceEqDiff, Nat.reduceLeDiff, Nat.reduceAdd, st83, f5, k5, o1, o2, o3, o4]
    refine ⟨wpSteady_one rfl rfl rfl rfl (steady_ext (H0 := hh) (b := 2 * h1.n) (o := 0) f5 (by omega) (by assumption) (by assumption) L1), ?_⟩
    simp -dsimp (disch := omega) only [wpS, wpT, Nat.reduceEqDiff, Nat.reduceAdd, f11]
    refine ⟨m - 1, by omega, i + 1, a4, s4, b4, t4, by omega, (hE.trans X3).put (by omega) _, by simp only [put_n]; omega, by simp (disch := first | omega | (simp only [new_n, put_n]; omega) | (repeat first | rw [new_n] | rw [put_n])) only [get_put_old]; exact kz, get_put_same _ _ rfl, p3.keep ((Keep.refl _).put k5 _), by simp [f1], by simp [f4], by simp [f5], by simp [f9], by simp [f10], by simp⟩
  · obtain rfl : i = ll.length := by omega
    rw [List.take_length] at hp
    obtain ⟨_, _, _, _, hhe, _, _, _, o1, _, o2, o3, o4⟩ := hp.parts
    cases hhe
    simp -dsimp (disch := omega) only [wpS, wpT, Nat.reduceEqDiff, Nat.reduceLeDiff, Nat.reduceAdd, st83, ld83, f4, f5, row_of hg5, hg, tk4', o1, o2, o3, o4]
    exact ⟨hE.put (Nat.le_refl _) _, hp.keep ((Keep.refl _).put hg _)⟩
/-- The squares of a chain's differences from its mean. -/
def qsqm (l : List Rat) : Rat := qsq l (qmean l)
/-- The bits of such a sum. -/
abbrev sBits (n k : Nat) : Nat := n * (k + (n * (k + 1) + 17) + 1 + (k + (n * (k + 1) + 17) + 1) + 1)
theorem qsqm_bits {l : List Rat} {k : Nat} (h0 : l ≠ []) (hl : l.length ≤ 100000) (hk : ∀ q ∈ l, QB k q) : QB (sBits l.length k) (qsqm l) := by
  have := QB.qsumAll (l := l.map fun x => (x - qmean l) * (x - qmean l)) (k := k + (l.length * (k + 1) + 17) + 1 + (k + (l.length * (k + 1) + 17) + 1)) (by
    intro q hq
    obtain ⟨x, hx, rfl⟩ := List.mem_map.1 hq
    exact qsq_bits hk (qmean_bits h0 hl hk) x hx)
  rw [List.length_map] at this
  exact this
set_option maxHeartbeats 1000000 in
theorem within1_ok {h : IH} {v : Value} {l : List (Nat × Nat)} (hv : ShSl h v l) (hok : allOk l) (hl : l.length ≤ 1000) (h0 : l ≠ []) {k : Nat} (hk : ∀ q ∈ l.map rOf, QB k q) (hb : sBits l.length k < 16000000) :
    WV Proofs.Tryz.prog (.func (.func 109) #[] #[]) [v] h fun r h' => Ext h h' ∧ PRat h' r (qsqm (l.map rOf)) := by
  have hl0 : 0 < l.length := List.length_pos_iff.2 h0
  have hone : 1 * (k + (l.length * (k + 1) + 17) + 1 + (k + (l.length * (k + 1) + 17) + 1) + 1) ≤ sBits l.length k := Nat.mul_le_mul_right _ hl0
  have hmb : QB (l.length * (k + 1) + 17) (qmean (l.map rOf)) := by
    have := qmean_bits (l := l.map rOf) (by simpa using h0) (by simp; omega) hk
    rwa [List.length_map] at this
  refine enter (nt := 11) (rs := [.cell 2 83]) Proofs.Tryz.func109 rfl rfl rfl (by simp) ?_
  simp -dsimp (disch := omega) only [wpS, Nat.reduceEqDiff, zc83]
  have E1 : Ext h (h.new (.cells ZR 0 none)) := (Ext.refl h).new _
  have g1 : (h.new (.cells ZR 0 none)).ext.get h.n = some (.cells ZR 0 none) := by simp (disch := first | omega | (simp only [new_n, put_n]; omega) | (repeat first | rw [new_n] | rw [put_n])) only [get_new_same]
  refine call (chain_ok (hv.keep E1.keep) hok hl h0 hk (by omega)) ?_
  rintro _ h1 ⟨X1, s, a1, s1, b1, t1, rfl, hs, hc⟩
  have m1 := X1.n
  simp only [new_n] at m1
  obtain ⟨sc, so⟩ := hs.co
  obtain ⟨_, _, _, _, hhe, _, _, _, o1, _, o2, o3, o4⟩ := hc.parts
  cases hhe
  simp -dsimp (disch := omega) only [wpS, wpT, Nat.reduceEqDiff, Nat.reduceLeDiff, Nat.reduceAdd, zc107, st107, fa107_0, ld103, fa107_1, ld83, so, o1, o2, o3, o4]
  have E2 : Ext h1 ((h1.new (.cells [.slice none 0 0, .bool false, .slice none 0 0, .bool false, .slice none 0 0] 0 none)).put h1.n (.cells [s, a1, s1, b1, t1] 0 none)) := ((Ext.refl h1).new _).put (Nat.le_refl _) _
  refine call (squares_ok (hs.keep kept_p E2.keep) (hc.keep E2.keep) hk hmb (by rw [List.length_map]; exact hb) (by omega)) ?_
  rintro r3 h3 ⟨X3, p3⟩
  have m3 := X3.n
  simp only [put_n, new_n] at m3
  obtain ⟨a3, s3, b3, t3, rfl, _, _, d1, o5, d2, o6, o7, o8⟩ := p3.parts
  have kg := X3.kept (by simp; omega) (E2.kept (by omega) (X1.kept (by simp) g1))
  simp -dsimp (disch := omega) only [wpS, wpT, Nat.reduceEqDiff, Nat.reduceLeDiff, Nat.reduceAdd, ld83, st83, kg, o5, o6, o7, o8, tk4']
  exact ⟨(((E1.trans X1).trans E2).trans X3).put (by omega) _, p3.keep ((Keep.refl _).put kg _)⟩
end Go.Id

/-! Contracts: package diagnose: the variance within, and that of the means. -/
namespace Go.Id
open Go
theorem sv_zero {ll : List (List (Nat × Nat))} (h : svErr ll = 0) : 2 ≤ ll.length ∧ ll.length ≤ 8 ∧ ∀ x ∈ ll, x.length ≤ 200 ∧ allOk x ∧ 2 ≤ x.length ∧ x.length = len0 ll := by
  unfold svErr at h
  split at h
  · omega
  · rename_i h1
    split at h
    · omega
    · rename_i h2
      split at h
      · omega
      · rename_i h3
        have a1 : ¬ 8 < ll.length := fun hh => h1 (.inl hh)
        have a3 : ¬ ll.length < 2 := fun hh => h3 (.inl hh)
        refine ⟨by omega, by omega, fun x hx => ?_⟩
        have b1 : ¬ 200 < x.length := fun hh => h1 (.inr (List.any_eq_true.2 ⟨x, hx, decide_eq_true hh⟩))
        have b2 : allOk x := Classical.byContradiction fun hh => h2 (List.any_eq_true.2 ⟨x, hx, decide_eq_true hh⟩)
        have b3 : ¬ (x.length < 2 ∨ x.length ≠ len0 ll) := fun hh => h3 (.inr (List.any_eq_true.2 ⟨x, hx, decide_eq_true hh⟩))
        exact ⟨by omega, b2, by omega, by omega⟩
theorem len0_at {ll : List (List (Nat × Nat))} (h : 2 ≤ ll.length) : ∃ x, ll[0]? = some x ∧ x ∈ ll ∧ len0 ll = x.length := by
  obtain ⟨x, hx⟩ : ∃ x, ll[0]? = some x := ⟨_, List.getElem?_eq_getElem (by omega)⟩
  exact ⟨x, hx, List.mem_of_getElem? hx, by rw [len0, List.getD_eq_getElem?_getD, hx]; rfl⟩
def qwithin (ll : List (List (Nat × Nat))) : Rat := qsum (ll.map fun x => qsqm (x.map rOf)) / (((ll.length * (len0 ll - 1) : Nat) : Int) : Rat)
def qcentres (ll : List (List (Nat × Nat))) : List Rat := ll.map fun x => qmean (x.map rOf)
def qmeansV (ll : List (List (Nat × Nat))) : Rat := qsqm (qcentres ll) / (((ll.length - 1 : Nat) : Int) : Rat)
abbrev wBits (m n k : Nat) : Nat := m * (sBits n k + 1) + 17
abbrev vBits (m n k : Nat) : Nat := sBits m (mBits n k) + 17
theorem small_rat {n : Nat} (h : n ≤ 100000) : QB 17 (((n : Nat) : Int) : Rat) := by
  refine QB.int ?_
  have e : 2 ^ 17 = 131072 := by decide
  rw [Int.natAbs_natCast, e]; omega
theorem nat_rat_ne {n : Nat} (h : 0 < n) : (((n : Nat) : Int) : Rat) ≠ 0 := by
  intro h0
  have := Rat.intCast_eq_zero_iff.1 h0
  omega
/-- What several chains without a fault bear. -/
structure SvOk (ll : List (List (Nat × Nat))) (k : Nat) : Prop where
  e : svErr ll = 0
  b : ∀ x ∈ ll, ∀ q ∈ x.map rOf, QB k q
theorem SvOk.sq {ll : List (List (Nat × Nat))} {k : Nat} (s : SvOk ll k) : ∀ x ∈ ll, QB (sBits (len0 ll) k) (qsqm (x.map rOf)) := fun x hx => by
  obtain ⟨_, _, h⟩ := sv_zero s.e
  obtain ⟨h1, h2, h3, h4⟩ := h x hx
  have := qsqm_bits (l := x.map rOf) (k := k) (by intro h0; simp at h0; rw [h0] at h3; simp at h3) (by simp; omega) (s.b x hx)
  rw [List.length_map, h4] at this
  exact this
theorem SvOk.within {ll : List (List (Nat × Nat))} {k : Nat} (s : SvOk ll k) : QB (wBits ll.length (len0 ll) k) (qwithin ll) := by
  obtain ⟨h1, h2, h⟩ := sv_zero s.e
  obtain ⟨x, hx, hxm, hx0⟩ := len0_at h1
  obtain ⟨a1, a2, a3, a4⟩ := h x hxm
  have h5 := QB.qsumAll (l := ll.map fun x => qsqm (x.map rOf)) (k := sBits (len0 ll) k) (by intro q hq; obtain ⟨x, hx, rfl⟩ := List.mem_map.1 hq; exact s.sq x hx)
  rw [List.length_map] at h5
  have hm : ll.length * (len0 ll - 1) ≤ 8 * 200 := Nat.mul_le_mul h2 (by omega)
  exact h5.div (small_rat (by omega)) (nat_rat_ne (Nat.mul_pos (by omega) (by omega)))
theorem SvOk.centres {ll : List (List (Nat × Nat))} {k : Nat} (s : SvOk ll k) : ∀ q ∈ qcentres ll, QB (mBits (len0 ll) k) q := fun q hq => by
  obtain ⟨x, hx, rfl⟩ := List.mem_map.1 hq
  obtain ⟨_, _, h⟩ := sv_zero s.e
  obtain ⟨h1, h2, h3, h4⟩ := h x hx
  have := qmean_bits (l := x.map rOf) (k := k) (by intro h0; simp at h0; rw [h0] at h3; simp at h3) (by simp; omega) (s.b x hx)
  rw [List.length_map, h4] at this
  exact this
theorem SvOk.means {ll : List (List (Nat × Nat))} {k : Nat} (s : SvOk ll k) : QB (vBits ll.length (len0 ll) k) (qmeansV ll) := by
  obtain ⟨h1, h2, h⟩ := sv_zero s.e
  have h5 := qsqm_bits (l := qcentres ll) (k := mBits (len0 ll) k) (by intro h0; simp [qcentres] at h0; rw [h0] at h1; simp at h1) (by simp [qcentres]; omega) s.centres
  rw [qcentres, List.length_map] at h5
  exact h5.div (small_rat (by omega)) (nat_rat_ne (by omega))
set_option maxHeartbeats 2000000 in
theorem dgwithin_ok {h : IH} {v : Value} {ll : List (List (Nat × Nat))} {k : Nat} (hv : ShLs h v ll) (s : SvOk ll k) (hb : wBits ll.length (len0 ll) k < 16000000) :
    WV Proofs.Tryz.prog (.func (.func 52) #[] #[]) [v] h fun r h' => Ext h h' ∧ PRat h' r (qwithin ll) := by
  obtain ⟨h1, h2, hx⟩ := sv_zero s.e
  obtain ⟨x0, hx0, hxm0, hl0⟩ := len0_at h1
  obtain ⟨y1, y2, y3, y4⟩ := hx x0 hxm0
  obtain ⟨_, _, hlen⟩ := hv.co
  have hb' : ll.length * (sBits (len0 ll) k + 1) + 17 < 16000000 := hb
  have hs1 : 1 * (sBits (len0 ll) k + 1) ≤ ll.length * (sBits (len0 ll) k + 1) := Nat.mul_le_mul_right _ (by omega)
  refine enter (nt := 17) (rs := [.cell 2 83]) Proofs.Tryz.func52 rfl rfl rfl (by simp) ?_
  simp -dsimp (disch := omega) only [wpS, Nat.reduceEqDiff, zc83]
  have E1 : Ext h (h.new (.cells ZR 0 none)) := (Ext.refl h).new _
  have g1 : (h.new (.cells ZR 0 none)).ext.get h.n = some (.cells ZR 0 none) := by simp (disch := first | omega | (simp only [new_n, put_n]; omega) | (repeat first | rw [new_n] | rw [put_n])) only [get_new_same]
  refine call (total2_ok (hv.keep E1.keep) (fun x => qsqm (x.map rOf)) (sBits (len0 ll) k) (fun hh w x e hw hxm => ?_) s.sq (by omega)) ?_
  · obtain ⟨z1, z2, z3, z4⟩ := hx x hxm
    exact within1_ok hw z2 (by omega) (by intro h0; rw [h0] at z3; simp at z3) (s.b x hxm) (by rw [z4]; omega)
  rintro _ h3 ⟨X1, p1⟩
  have m1 := X1.n
  simp only [new_n] at m1
  obtain ⟨a3, s3, b3, t3, rfl, _, _, _, o1, _, o2, o3, o4⟩ := p1.parts
  simp -dsimp (disch := omega) only [wpS, wpT, Nat.reduceEqDiff, Nat.reduceLeDiff, Nat.reduceAdd, zc83, st83, o1, o2, o3, o4]
  obtain ⟨H0, hH0⟩ : ∃ H0, H0 = (h3.new (.cells ZR 0 none)).put h3.n (.cells [a3, s3, b3, t3] 0 none) := ⟨_, rfl⟩
  have e0 : Ext h3 H0 := by rw [hH0]; exact ((Ext.refl _).new _).put (Nat.le_refl _) _
  have n0 : H0.n = h3.n + 1 := by rw [hH0]; rfl
  have gx : H0.ext.get h3.n = some (.cells [a3, s3, b3, t3] 0 none) := by rw [hH0]; simp (disch := first | omega | (simp only [new_n, put_n]; omega) | (repeat first | rw [new_n] | rw [put_n])) only [get_put_same]
  have p1' := p1.keep e0.keep
  rw [← hH0]
  clear hH0
  have X0 := Ext.refl H0
  obtain ⟨_, _, L1⟩ := pl4 gx
  obtain ⟨w, l1, l2, l3⟩ := hv.at ((E1.trans X1).trans e0).keep hx0
  have l3' : indexAddr Proofs.Tryz.prog 22 v (.int .i64 0) = some (elemAddr v 0) := l3 .i64
  have eN : (x0.length : Int) - 1 = ((len0 ll - 1 : Nat) : Int) := by omega
  have eM : (ll.length : Int) * ((len0 ll - 1 : Nat) : Int) = ((ll.length * (len0 ll - 1) : Nat) : Int) := by simp
  have hm : ll.length * (len0 ll - 1) ≤ 8 * 200 := Nat.mul_le_mul h2 (by omega)
  have hmp : 0 < ll.length * (len0 ll - 1) := Nat.mul_pos (by omega) (by omega)
  refine drawn [(0, [10])] (by kernel_rfl) (by kernel_rfl) rfl ?_
  simp -dsimp (disch := omega) only [wpS, wpT, Nat.reduceEqDiff, Nat.reduceLeDiff, Nat.reduceAdd, ld83, row_of gx, tk4', hlen, l3', l1, l2.1.len sl25, eN, eM]
  refine call (rfrom_ok ((ll.length * (len0 ll - 1) : Nat) : Int) ⟨by omega, by omega⟩) ?_
  rintro r4 h4 ⟨X4, p4⟩
  have m4 := X4.n
  simp -dsimp (disch := omega) only [wpS, Nat.reduceEqDiff]
  have hS := QB.qsumAll (l := ll.map fun x => qsqm (x.map rOf)) (k := sBits (len0 ll) k) (by intro q hq; obtain ⟨x, hx, rfl⟩ := List.mem_map.1 hq; exact s.sq x hx)
  rw [List.length_map] at hS
  refine call (rover_ok (p1'.keep X4.keep) p4 hS (small_rat (by omega)) hb (nat_rat_ne hmp)) ?_
  rintro _ h5 ⟨X5, p5⟩
  have m5 := X5.n
  have X45 := X4.trans X5
  obtain ⟨a5, s5, b5, t5, rfl, _, _, _, u1, _, u2, u3, u4⟩ := p5.parts
  have kg := X45.kept (by omega) (e0.kept (by omega) (X1.kept (by simp) g1))
  simp -dsimp (disch := omega) only [wpS, wpT, Nat.reduceEqDiff, Nat.reduceLeDiff, Nat.reduceAdd, st83, kg, u1, u2, u3, u4]
  refine ⟨by repeat' first | refine wpSteady_c2 ?_ ?_ | refine wpSteady_t2 ?_ ?_ | exact wpSteady_one rfl rfl rfl rfl (steady_ext (H0 := H0) rfl (by omega) (by assumption) (by assumption) (by with_reducible assumption)), ?_⟩
  simp -dsimp (disch := omega) only [wpS, wpT, Nat.reduceEqDiff, Nat.reduceLeDiff, Nat.reduceAdd, ld83, tk4']
  exact ⟨(((E1.trans X1).trans e0).trans X45).put (by omega) _, p5.keep ((Keep.refl _).put kg _)⟩
set_option maxHeartbeats 4000000 in
theorem dgmeans_ok {h : IH} {v : Value} {ll : List (List (Nat × Nat))} {k : Nat} (hv : ShLs h v ll) (s : SvOk ll k) (hb : vBits ll.length (len0 ll) k < 16000000) :
    WV Proofs.Tryz.prog (.func (.func 57) #[] #[]) [v] h fun r h' => Ext h h' ∧ PRat h' r (qmeansV ll) := by
  obtain ⟨h1, h2, hx⟩ := sv_zero s.e
  obtain ⟨x0, hx0, hxm0, hl0⟩ := len0_at h1
  obtain ⟨y1, y2, y3, y4⟩ := hx x0 hxm0
  obtain ⟨_, _, hlen⟩ := hv.co
  have hcl : (qcentres ll).length = ll.length := by simp [qcentres]
  have hcn : qcentres ll ≠ [] := by intro h0; rw [h0] at hcl; simp at hcl; omega
  have hb' : sBits ll.length (mBits (len0 ll) k) + 17 < 16000000 := hb
  have hb2 : ll.length * (mBits (len0 ll) k + (ll.length * (mBits (len0 ll) k + 1) + 17) + 1 + (mBits (len0 ll) k + (ll.length * (mBits (len0 ll) k + 1) + 17) + 1) + 1) < 16000000 := Nat.lt_of_le_of_lt (Nat.le_add_right _ 17) hb'
  have hs0 : 1 * (mBits (len0 ll) k + (ll.length * (mBits (len0 ll) k + 1) + 17) + 1 + (mBits (len0 ll) k + (ll.length * (mBits (len0 ll) k + 1) + 17) + 1) + 1) ≤ sBits ll.length (mBits (len0 ll) k) := Nat.mul_le_mul_right _ (by omega)
  refine enter (nt := 28) (rs := [.cell 2 83]) Proofs.Tryz.func57 rfl rfl rfl (by simp) ?_
  simp -dsimp (disch := omega) only [wpS, Nat.reduceEqDiff, zc83, hlen]
  have E1 : Ext h (h.new (.cells ZR 0 none)) := (Ext.refl h).new _
  have g1 : (h.new (.cells ZR 0 none)).ext.get h.n = some (.cells ZR 0 none) := by simp (disch := first | omega | (simp only [new_n, put_n]; omega) | (repeat first | rw [new_n] | rw [put_n])) only [get_new_same]
  refine loop_cut (fun fr hh => ∃ out cs, Ext h hh ∧ h.n < hh.n ∧ hh.ext.get h.n = some (.cells ZR 0 none) ∧ Acc hh (h.n + 1) 4 out (qcentres ll).length cs ∧ ElCs PRat hh (qcentres ll) cs ∧ fget fr 0 = some v ∧ fget fr 2 = some (ptr (2 * h.n) 0) ∧ fget fr 3 = some out) ?_ ?_
  · refine loop (fun m fr hh => ∃ (i : Nat) (out : Value) (cs : List Value), i + m = ll.length ∧ Ext (h.new (.cells ZR 0 none)) hh ∧ Acc hh (h.n + 1) 4 out ((qcentres ll).take i).length cs ∧ ElCs PRat hh ((qcentres ll).take i) cs ∧ fget fr 0 = some v ∧ fget fr 2 = some (ptr (2 * h.n) 0) ∧ fget fr 3 = some out ∧ fget fr 6 = some v ∧ fget fr 7 = some (KN ll.length) ∧ fget fr 8 = some (KN i)) ll.length
      ⟨0, .slice none 0 0, [], by omega, Ext.refl _, Acc.nil _ _ (by omega), by simp [ElCs], by simp, by simp, by simp, by simp, by simp, by simp⟩ ?_
    rintro m fr hh ⟨i, out, cs, him, hE, hA, hC, f0, f2, f3, f6, f7, f8⟩
    have mE := hE.n
    simp only [new_n] at mE
    simp -dsimp (disch := omega) only [wpS, f7, f8]
    refine bq_intro ?_ ?_ <;> intro hc <;> simp only [decide_eq_true_eq, decide_eq_false_iff_not] at hc
    · have hi : i < ll.length := by omega
      obtain ⟨x, hxx⟩ : ∃ x, ll[i]? = some x := ⟨_, List.getElem?_eq_getElem hi⟩
      have hxm := List.mem_of_getElem? hxx
      obtain ⟨z1, z2, z3, z4⟩ := hx x hxm
      obtain ⟨w, l1, l2, l3⟩ := hv.at (E1.trans hE).keep hxx
      have hqx : (qcentres ll)[i]? = some (qmean (x.map rOf)) := by simp [qcentres, hxx]
      have hmb : mBits x.length k < 16000000 := by rw [z4]; omega
      simp -dsimp (disch := omega) only [wpS, wpT, Nat.reduceEqDiff, f3, f6, f8, l1, l3]
      refine call (chain_ok l2 z2 (by omega) (by intro h0; rw [h0] at z3; simp at z3) (s.b x hxm) hmb) ?_
      rintro _ h4 ⟨X4, s4, a4, s5, b4, t4, rfl, hs4, hc4⟩
      have m4 := X4.n
      obtain ⟨_, _, _, _, hhe, _, _, _, u1, _, u2, u3, u4⟩ := hc4.parts
      cases hhe
      obtain ⟨out', h5, hap, hA5, hC5, hG5, hE5⟩ := read4 ap103 (by omega) kept_p (hA.ext X4) (hC.keep kept_p X4.keep) hc4 (by simp [u1, u2, u3, u4]) (by simp [qcentres]; omega) (by omega) (hE.trans X4) (by simp)
      have eT : (qcentres ll).take i ++ [qmean (x.map rOf)] = (qcentres ll).take (i + 1) := (take_snoc hqx).symm
      rw [eT] at hA5 hC5
      have ex5 : (#[s4, a4, s5, b4, t4] : Array Value).extract 1 5 = #[a4, s5, b4, t4] := rfl
      simp -dsimp (disch := omega) only [wpS, wpT, Nat.reduceEqDiff, Nat.reduceLeDiff, Nat.reduceAdd, fp107_1, bs103, ba103_103, f8, ex5, hap]
      exact ⟨m - 1, by omega, i + 1, out', _, by omega, hE5, hA5, hC5, by simp [f0], by simp [f2], by simp, by simp [f6], by simp [f7], by simp⟩
    · obtain rfl : i = ll.length := by omega
      rw [← hcl, List.take_length] at hA hC
      simp -dsimp (disch := omega) only [wpS, wpT]
      exact ⟨out, cs, E1.trans hE, by omega, hE.kept (by simp) g1, hA, hC, by simp [f0], by simp [f2], by simp [f3]⟩
  rintro fr hh ⟨out, cs, hE, hn, hg, hA, hC, f0, f2, f3⟩
  have hS : ElSl PRat hh out (qcentres ll) := ⟨cs, hA.sl, hC, by rw [hcl]; omega⟩
  have hcB := s.centres
  have hmm := qmean_bits hcn (by rw [hcl]; omega) hcB
  rw [hcl] at hmm
  simp -dsimp (disch := omega) only [wpS, Nat.reduceEqDiff, f3]
  refine call (mean_ok hS hcn hcB (by rw [hcl]; omega)) ?_
  rintro rm h4 ⟨X4, p4⟩
  have m4 := X4.n
  simp -dsimp (disch := omega) only [wpS, Nat.reduceEqDiff]
  refine call (squares_ok (hS.keep kept_p X4.keep) p4 hcB hmm (by rw [hcl]; exact hb2) (by omega)) ?_
  rintro rq h5 ⟨X5, p5⟩
  have m5 := X5.n
  have eN : (ll.length : Int) - 1 = ((ll.length - 1 : Nat) : Int) := by omega
  simp -dsimp (disch := omega) only [wpS, Nat.reduceEqDiff, f0, hlen, eN]
  refine call (rfrom_ok ((ll.length - 1 : Nat) : Int) ⟨by omega, by omega⟩) ?_
  rintro rf h6 ⟨X6, p6⟩
  have m6 := X6.n
  simp -dsimp (disch := omega) only [wpS, Nat.reduceEqDiff]
  have hQ : QB (sBits ll.length (mBits (len0 ll) k)) (qsqm (qcentres ll)) := by
    have := qsqm_bits hcn (by rw [hcl]; omega) hcB
    rw [hcl] at this
    exact this
  have p5' : PRat h5 rq (qsqm (qcentres ll)) := p5
  refine call (rover_ok (p5'.keep X6.keep) p6 hQ (small_rat (by omega)) hb (nat_rat_ne (by omega))) ?_
  rintro _ h7 ⟨X7, p7⟩
  have m7 := X7.n
  obtain ⟨a5, s5, b5, t5, rfl, _, _, _, u1, _, u2, u3, u4⟩ := p7.parts
  have kg := X7.kept (by omega) (X6.kept (by omega) (X5.kept (by omega) (X4.kept hn hg)))
  simp -dsimp (disch := omega) only [wpS, wpT, Nat.reduceEqDiff, Nat.reduceLeDiff, Nat.reduceAdd, st83, ld83, f2, kg, u1, u2, u3, u4, tk4']
  exact ⟨((((hE.trans X4).trans X5).trans X6).trans X7).put (by omega) _, p7.keep ((Keep.refl _).put kg _)⟩
end Go.Id
