/-
  Contracts: enumerate.Index. Contracts: the examples' parts: path, cycle, ones; two lists of plans compared. Contracts: counts, lists; the search of a number in a rising list. Counting plans: the districts of a given graph, computed. Counting plans: where a set is a district by its size alone. Counting plans of a part: sets of the part's nodes, numbered anew.
-/
import Derived.Test.YtcmfdbjgimekbaaDoorEnumeratePartsAo
import Derived.Test.YtcmfdbjgimekbaaDoorEnumeratePartsAn
import Derived.Test.YtcmfdbjgimekbaaDoorEnumeratePartsAm
set_option linter.unusedVariables false
set_option linter.unusedSimpArgs false
set_option linter.defProp false
set_option linter.deprecated false
/-! Contracts: enumerate.Index. -/
namespace Go.Id
open Go

/-! ### Index -/
/-- What comes before a list of labels, and its classes. -/
def idxGo (F : Nat → Bool) (n k : Nat) : Nat → List Nat → Nat → List Int → Option (Nat × List Nat)
  | _, cs, b, [] => some (b, cs)
  | node, cs, b, c :: l => if 0 ≤ c ∧ c ≤ cs.length then idxGo F n k (node + 1) (lab cs node c.toNat) (b + sumTo (fun l => after F (lab cs node l) (above n node) k) c.toNat) l else none
/-- What Index answers. -/
def idxV (F : Nat → Bool) (n k : Nat) (p : List Int) : Value :=
  if p.length = n then match idxGo F n k 0 [] 0 p with
    | some (b, cs) => if after F cs 0 k = 1 then .tuple #[wideV b, KI 0] else .tuple #[wdV 0, KI 2]
    | none => .tuple #[wdV 0, KI 2]
  else .tuple #[wdV 0, KI 2]
set_option maxHeartbeats 4000000 in
theorem index_ok {h : IH} (hB : BaseT h) {n : Nat} {E : List (Nat × Nat)} {v w : Value} {ws : List Int} {lo hi : Int} {k : Nat} (a : ArgsAt h n E v w ws lo hi k) {x : Value} {p : List Int} (hx : SlOf h 1 x p.length (p.map KI)) :
    WV Proofs.Tryd.prog (.func (.func 24) #[] #[]) [.agg #[KI n, v], .agg #[w, KI lo, KI hi, KI k], x] h fun r h' => Ext h h' ∧ r = idxV (fitsB E ws lo hi) n k p := by
  obtain ⟨hG, hn0, hn12, hV, hlen, hwl, hws, hd1, hd2, hlo, hlohi⟩ := enErr_ok a.ok
  have hp12 : 2 ^ n ≤ 2 ^ 12 := Nat.pow_le_pow_right (by omega) hn12
  have hp0 : 0 < 2 ^ n := Nat.pow_pos (by omega)
  have hspl : ∀ n, IH.splice [.int .u64 0, .int .u64 0, .int .u64 0, .int .u64 0, .int .u64 0, .int .u64 0, .int .u64 0, .int .u64 0] 0 (wdC n) = wdC n := fun n => splice_all (by rw [wdC_len]; rfl)
  refine enter (nt := 95) (rs := [.cell 6 59, .tmp 7]) Proofs.Tryd.func24 rfl rfl rfl (by simp) ?_
  simp -dsimp (maxSteps := 1000000) (disch := first | omega | (simp only [new_n, put_n]; omega) | decide +kernel | (repeat first | rw [new_n] | rw [put_n])) only [wpS, wpT, Nat.reduceEqDiff, reduceIte, Nat.reduceLT, Nat.reduceLeDiff, Nat.reduceAdd, Nat.reduceMul, Nat.reduceBEq, Int.reduceToNat, zc59, ld32, ld35, bv59, st59, fa103_0, ld3, es44, fa103_2, ld101, fa35_3, ln44, ln38, ld59, wdV_form]
  have e0 : ∀ o1 o2 o3, Ext h (((h.new o1).new o2).new o3) := fun o1 o2 o3 => (((Ext.refl h).new _).new _).new _
  have a0 := a.keep (e0 (.cells [KI n, v] 0 none) (.cells [w, KI lo, KI hi, KI k] 0 none) (.cells [.int .u64 0, .int .u64 0, .int .u64 0, .int .u64 0, .int .u64 0, .int .u64 0, .int .u64 0, .int .u64 0] 0 none)).keep
  refine call (open_ok (hB.ext (e0 _ _ _)) a0.sE a0.sW a0.hhi a0.ok) ?_
  rintro r h1 ⟨hE1, q, hqm, rfl, hF, hm⟩
  have h3n : h.n + 3 ≤ h1.n := hE1.n
  have hqm3 : h.n + 3 ≤ q.m := hqm
  have hr1 : h1.row (2 * (h.n + 1)) = some [w, KI lo, KI hi, KI k] := by
    rw [hE1.row (.inr (by simp only [new_n]; omega)), row_even]; simp only [IH.cells]; simp (disch := first | omega | (simp only [new_n, put_n]; omega) | (repeat first | rw [new_n] | rw [put_n])) only [get_new_same, get_new_old, get_put_same, get_put_old]
  have hg1 : h1.ext.get (h.n + 2) = some (.cells [.int .u64 0, .int .u64 0, .int .u64 0, .int .u64 0, .int .u64 0, .int .u64 0, .int .u64 0, .int .u64 0] 0 none) := by
    rw [hE1.get _ (by simp only [new_n]; omega)]; simp (disch := first | omega | (simp only [new_n, put_n]; omega) | (repeat first | rw [new_n] | rw [put_n])) only [get_new_same, get_new_old, get_put_same, get_put_old]
  have hE2 : Ext h h1 := (e0 _ _ _).trans hE1
  have hx1 := hx.keep hE2.keep
  have rp : h1.row (2 * q.p) = some [KI n, .slice (some ⟨2 * q.fb, 0, none⟩) (2 ^ n) (2 * 2 ^ n + 1), .func (.func 87) #[] #[ptr (2 * q.d) 0, ptr (2 * q.x) 0]] := by rw [row_even]; simp only [IH.cells, hF.gp]
  generalize fitsB E ws lo hi = F at *
  unfold idxV
  by_cases hpn : p.length = n
  · have epn : ((p.length : Int) != (n : Int)) = false := by simp; omega
    simp -dsimp (maxSteps := 1000000) (disch := first | omega | (simp only [new_n, put_n]; omega) | decide +kernel | (repeat first | rw [new_n] | rw [put_n])) only [wpS, wpT, Nat.reduceEqDiff, reduceIte, Nat.reduceLT, Nat.reduceLeDiff, Nat.reduceAdd, Nat.reduceMul, Nat.reduceBEq, Int.reduceToNat, zc59, ld32, ld35, bv59, st59, fa103_0, ld3, es44, fa103_2, ld101, fa35_3, ln44, ln38, ld59, hx1.len sl44, rp, epn]
    refine loop (fun m fr hh => ∃ (node b : Nat) (cs : List Nat) (cv : Value) (es' : MapL), node + m = n ∧ Mem q.m h1 hh ∧ hh.ext.get q.m = some (.map es') ∧ Memo F es' ∧ SlOf hh 1 cv cs.length (c64 cs) ∧ (cv = .slice none 0 0 ∨ 0 < cs.length) ∧ cs.length ≤ node ∧ (∀ c ∈ cs, c < 2 ^ n) ∧ b ≤ node * 893353197568 ∧
        idxGo F n k node cs b (p.drop node) = idxGo F n k 0 [] 0 p ∧ fget fr 4 = some (ptr (2 * (h.n + 1)) 0) ∧ fget fr 6 = some (ptr (2 * (h.n + 1 + 1)) 0) ∧ fget fr 8 = some (ptr (2 * q.p) 0) ∧ fget fr 10 = some (KI b) ∧ fget fr 11 = some cv ∧ fget fr 34 = some x ∧ fget fr 35 = some (KI p.length) ∧ fget fr 36 = some (KI node)) n
      ?_ ?_
    · exact ⟨0, 0, [], _, [], by omega, Mem.refl _ _, hm, memo_nil _, SlOf.nil _ (sz := 1) (by decide), .inl rfl, Nat.le_refl _, fun c hc => by (cases hc), by omega, rfl, by simp, by simp, by simp, by simp, by simp, by simp, by simp, by simp⟩
    rintro m fr hh ⟨node, b, cs, cv, es', hnm, hMh, hmh, hMmh, hcv, hne, hcl, hcs, hb, hidx, f4, f6, f8, f10, f11, f34, f35, f36⟩
    have hFh := hF.mem hMh
    have hrh : hh.row (2 * (h.n + 1)) = some [w, KI lo, KI hi, KI k] := by rw [hMh.row (.inr ⟨by omega, by omega⟩)]; exact hr1
    have hgh : hh.ext.get (h.n + 2) = some (.cells [.int .u64 0, .int .u64 0, .int .u64 0, .int .u64 0, .int .u64 0, .int .u64 0, .int .u64 0, .int .u64 0] 0 none) := by rw [hMh.get _ (by omega) (by omega)]; exact hg1
    have rph : hh.row (2 * q.p) = some [KI n, .slice (some ⟨2 * q.fb, 0, none⟩) (2 ^ n) (2 * 2 ^ n + 1), .func (.func 87) #[] #[ptr (2 * q.d) 0, ptr (2 * q.x) 0]] := by rw [row_even]; simp only [IH.cells, hFh.gp]
    have hEh := Mem.ext hE2 (by omega) hMh
    have hxh := hx.keep hEh.keep
    simp -dsimp (maxSteps := 1000000) (disch := first | omega | (simp only [new_n, put_n]; omega) | decide +kernel | (repeat first | rw [new_n] | rw [put_n])) only [wpS, wpT, Nat.reduceEqDiff, reduceIte, Nat.reduceLT, Nat.reduceLeDiff, Nat.reduceAdd, Nat.reduceMul, Nat.reduceBEq, Int.reduceToNat, zc59, ld32, ld35, bv59, st59, fa103_0, ld3, es44, fa103_2, ld101, fa35_3, ln44, ln38, ld59, f4, f6, f8, f10, f11, f34, f35, f36]
    refine bq_intro ?_ ?_ <;> intro hc <;> simp only [bne_iff_ne, beq_iff_eq, decide_eq_true_eq, decide_eq_false_iff_not, bne_eq_false_iff_eq, beq_eq_false_iff_ne, ne_eq, Bool.not_eq_true', Bool.not_eq_false', Bool.not_eq_true, Bool.not_eq_false, Decidable.not_not, Bool.not_not] at hc
    · have hnode : node < n := by omega
      obtain ⟨c, hpc⟩ : ∃ c, p[node]? = some c := ⟨p[node], List.getElem?_eq_getElem (by omega)⟩
      have hdrop : p.drop node = c :: p.drop (node + 1) := by
        rw [List.drop_eq_getElem_cons (by omega)]
        have : p[node] = c := by
          have := List.getElem?_eq_getElem (l := p) (i := node) (by omega)
          rw [this] at hpc; exact Option.some.inj hpc
        rw [this]
      rw [hdrop] at hidx
      have hix := hxh.idx (P := Proofs.Tryd.prog) es44 (k := .i64) (j := node) (by omega)
      rw [Nat.mul_one] at hix
      have hlx := hxh.ld (Keep.refl _) (c := node) (by simp; omega) (P := Proofs.Tryd.prog) (t := 3) ag3
      rw [List.getElem?_map, hpc] at hlx
      simp only [Option.map_some] at hlx
      by_cases hc0 : c < 0
      · simp -dsimp (maxSteps := 1000000) (disch := first | omega | (simp only [new_n, put_n]; omega) | decide +kernel | (repeat first | rw [new_n] | rw [put_n])) only [wpS, wpT, Nat.reduceEqDiff, reduceIte, Nat.reduceLT, Nat.reduceLeDiff, Nat.reduceAdd, Nat.reduceMul, Nat.reduceBEq, Int.reduceToNat, zc59, ld32, ld35, bv59, st59, fa103_0, ld3, es44, fa103_2, ld101, fa35_3, ln44, ln38, ld59, f4, f6, f8, f10, f11, f34, f35, f36, hix, hlx, hgh]
        have hnone : idxGo F n k 0 [] 0 p = none := by rw [← hidx, idxGo, if_neg (by omega)]
        refine ⟨hEh.put (by omega) _, ?_⟩
        rw [if_pos hpn, hnone]
        rfl
      · by_cases hc1 : (cs.length : Int) < c
        · simp -dsimp (maxSteps := 1000000) (disch := first | omega | (simp only [new_n, put_n]; omega) | decide +kernel | (repeat first | rw [new_n] | rw [put_n])) only [wpS, wpT, Nat.reduceEqDiff, reduceIte, Nat.reduceLT, Nat.reduceLeDiff, Nat.reduceAdd, Nat.reduceMul, Nat.reduceBEq, Int.reduceToNat, zc59, ld32, ld35, bv59, st59, fa103_0, ld3, es44, fa103_2, ld101, fa35_3, ln44, ln38, ld59, f4, f6, f8, f10, f11, f34, f35, f36, hix, hlx, hgh, hcv.len sl38]
          have hnone : idxGo F n k 0 [] 0 p = none := by rw [← hidx, idxGo, if_neg (by omega)]
          refine ⟨hEh.put (by omega) _, ?_⟩
          rw [if_pos hpn, hnone]
          rfl
        · have ea : ((2 ^ n : Nat) : Int) - ((2 ^ (node + 1) : Nat) : Int) = ((above n node : Nat) : Int) := by
            have : 2 ^ (node + 1) ≤ 2 ^ n := Nat.pow_le_pow_right (by omega) (by omega)
            unfold above; omega
          have en : ((node : Int) + 1).toNat = node + 1 := by omega
          have hal := above_lt n node
          simp -dsimp (maxSteps := 1000000) (disch := first | omega | (simp only [new_n, put_n]; omega) | decide +kernel | (repeat first | rw [new_n] | rw [put_n])) only [wpS, wpT, Nat.reduceEqDiff, reduceIte, Nat.reduceLT, Nat.reduceLeDiff, Nat.reduceAdd, Nat.reduceMul, Nat.reduceBEq, Int.reduceToNat, zc59, ld32, ld35, bv59, st59, fa103_0, ld3, es44, fa103_2, ld101, fa35_3, ln44, ln38, ld59, f4, f6, f8, f10, f11, f34, f35, f36, hix, hlx, hgh, hcv.len sl38, rph, ea, en]
          obtain ⟨cn, rfl⟩ : ∃ cn : Nat, c = cn := ⟨c.toNat, by omega⟩
          rw [idxGo, if_pos (by omega), Int.toNat_natCast] at hidx
          have e64 : ∀ c ∈ cs, c < 18446744073709551616 := fun c hc => by have := hcs c hc; omega
          refine loop (fun d fr h2 => ∃ (l b2 : Nat) (es2 : MapL), l + d = cn ∧ b2 = b + sumTo (fun l => after F (lab cs node l) (above n node) k) l ∧ b2 ≤ b + l * 68719476736 ∧ Mem q.m h1 h2 ∧ h2.ext.get q.m = some (.map es2) ∧ Memo F es2 ∧ SlOf h2 1 cv cs.length (c64 cs) ∧
              fget fr 4 = some (ptr (2 * (h.n + 1)) 0) ∧ fget fr 6 = some (ptr (2 * (h.n + 1 + 1)) 0) ∧ fget fr 8 = some (ptr (2 * q.p) 0) ∧ fget fr 10 = some (KI b2) ∧ fget fr 11 = some cv ∧ fget fr 12 = some (KI node) ∧ fget fr 13 = some (KI cn) ∧ fget fr 14 = some (K64 (above n node)) ∧ fget fr 34 = some x ∧ fget fr 35 = some (KI p.length) ∧ fget fr 36 = some (KI node) ∧ fget fr 59 = some (KI cn) ∧ fget fr 60 = some (KI l)) cn
            ?_ ?_
          · exact ⟨0, b, es', by omega, rfl, by omega, hMh, hmh, hMmh, hcv, by simp [f4], by simp [f6], by simp [f8], by simp [f10], by simp [f11], by simp, by simp, by simp, by simp [f34], by simp [f35], by simp [f36], by simp, by simp⟩
          rintro d fr h2 ⟨l, b2, es2, hld, hb2, hb2l, hM2, hm2, hMm2, hcv2, g4, g6, g8, g10, g11, g12, g13, g14, g34, g35, g36, g59, g60⟩
          have hF2 := hF.mem hM2
          have hr2 : h2.row (2 * (h.n + 1)) = some [w, KI lo, KI hi, KI k] := by rw [hM2.row (.inr ⟨by omega, by omega⟩)]; exact hr1
          have rp2 : h2.row (2 * q.p) = some [KI n, .slice (some ⟨2 * q.fb, 0, none⟩) (2 ^ n) (2 * 2 ^ n + 1), .func (.func 87) #[] #[ptr (2 * q.d) 0, ptr (2 * q.x) 0]] := by rw [row_even]; simp only [IH.cells, hF2.gp]
          simp -dsimp (maxSteps := 1000000) (disch := first | omega | (simp only [new_n, put_n]; omega) | decide +kernel | (repeat first | rw [new_n] | rw [put_n])) only [wpS, wpT, Nat.reduceEqDiff, reduceIte, Nat.reduceLT, Nat.reduceLeDiff, Nat.reduceAdd, Nat.reduceMul, Nat.reduceBEq, Int.reduceToNat, zc59, ld32, ld35, bv59, st59, fa103_0, ld3, es44, fa103_2, ld101, fa35_3, ln44, ln38, ld59, g4, g6, g8, g10, g11, g12, g13, g14, g34, g35, g36, g59, g60]
          refine bq_intro ?_ ?_ <;> intro hc2 <;> simp only [bne_iff_ne, beq_iff_eq, decide_eq_true_eq, decide_eq_false_iff_not, bne_eq_false_iff_eq, beq_eq_false_iff_ne, ne_eq, Bool.not_eq_true', Bool.not_eq_false', Bool.not_eq_true, Bool.not_eq_false, Decidable.not_not, Bool.not_not] at hc2
          · have hb1 := after_small F (lab cs node l) hn12 (show k ≤ 8 by omega) hal
            simp -dsimp (maxSteps := 1000000) (disch := first | omega | (simp only [new_n, put_n]; omega) | decide +kernel | (repeat first | rw [new_n] | rw [put_n])) only [wpS, wpT, Nat.reduceEqDiff, reduceIte, Nat.reduceLT, Nat.reduceLeDiff, Nat.reduceAdd, Nat.reduceMul, Nat.reduceBEq, Int.reduceToNat, zc59, ld32, ld35, bv59, st59, fa103_0, ld3, es44, fa103_2, ld101, fa35_3, ln44, ln38, ld59, g4, g6, g8, g10, g11, g12, g13, g14, g34, g35, g36, g59, g60]
            refine drawn [(4, [12]), (11, [8])] (by kernel_rfl) (by kernel_rfl) rfl ?_
            simp -dsimp (maxSteps := 1000000) (disch := first | omega | (simp only [new_n, put_n]; omega) | decide +kernel | (repeat first | rw [new_n] | rw [put_n])) only [wpS, wpT, Nat.reduceEqDiff, reduceIte, Nat.reduceLT, Nat.reduceLeDiff, Nat.reduceAdd, Nat.reduceMul, Nat.reduceBEq, Int.reduceToNat, zc59, ld32, ld35, bv59, st59, fa103_0, ld3, es44, fa103_2, ld101, fa35_3, ln44, ln38, ld59, g4, g6, g8, g10, g11, g12, g13, g14, g34, g35, g36, g59, g60, rp2]
            refine call (labelled_ok hcv2 hne (by omega) e64 (node := node) (label := l) (by omega) (by omega)) ?_
            rintro v3 h3 ⟨hE3, hv3⟩
            have hF3 := hF2.mem (hE3.mem _)
            have h2n := hM2.n
            have h3n := hE3.n
            have hm3 : h3.ext.get q.m = some (.map es2) := by rw [hE3.get _ hF2.lm]; exact hm2
            have hr3 : h3.row (2 * (h.n + 1)) = some [w, KI lo, KI hi, KI k] := by rw [hE3.row (.inr (by omega))]; exact hr2
            simp -dsimp (maxSteps := 1000000) (disch := first | omega | (simp only [new_n, put_n]; omega) | decide +kernel | (repeat first | rw [new_n] | rw [put_n])) only [wpS, wpT, Nat.reduceEqDiff, reduceIte, Nat.reduceLT, Nat.reduceLeDiff, Nat.reduceAdd, Nat.reduceMul, Nat.reduceBEq, Int.reduceToNat, zc59, ld32, ld35, bv59, st59, fa103_0, ld3, es44, fa103_2, ld101, fa35_3, ln44, ln38, ld59, g4, g6, g8, g10, g11, g12, g13, g14, g34, g35, g36, g59, g60, hr3]
            refine call (complete_ok hn12 (lab cs node l) (by omega) hF3 hm3 hMm2 hal (lab_mem hnode hcs) hv3 (by rw [lab_len]; split <;> omega)) ?_
            rintro _ h4 ⟨rfl, hE4, es4, hm4, hMm4⟩
            have eb : (b2 : Int) + ((after F (lab cs node l) (above n node) k : Nat) : Int) = ((b2 + after F (lab cs node l) (above n node) k : Nat) : Int) := by omega
            simp -dsimp (maxSteps := 1000000) (disch := first | omega | (simp only [new_n, put_n]; omega) | decide +kernel | (repeat first | rw [new_n] | rw [put_n])) only [wpS, wpT, Nat.reduceEqDiff, reduceIte, Nat.reduceLT, Nat.reduceLeDiff, Nat.reduceAdd, Nat.reduceMul, Nat.reduceBEq, Int.reduceToNat, zc59, ld32, ld35, bv59, st59, fa103_0, ld3, es44, fa103_2, ld101, fa35_3, ln44, ln38, ld59, g4, g6, g8, g10, g11, g12, g13, g14, g34, g35, g36, g59, g60, eb]
            have rp3 : h3.row (2 * q.p) = some [KI n, .slice (some ⟨2 * q.fb, 0, none⟩) (2 ^ n) (2 * 2 ^ n + 1), .func (.func 87) #[] #[ptr (2 * q.d) 0, ptr (2 * q.x) 0]] := by rw [row_even]; simp only [IH.cells, hF3.gp]
            refine ⟨wpSteady_cons (wpSteady_one rfl rfl rfl rfl (steady_load (av := ptr (2 * q.p) 2) (v := compV q) rfl ?_ ?_)) (wpSteady_one rfl rfl rfl rfl (steady_load (av := ptr (2 * (h.n + 1)) 3) (v := KI k) rfl ?_ ?_)), ?_⟩
            · simp -dsimp (maxSteps := 1000000) (disch := first | omega | (simp only [new_n, put_n]; omega) | decide +kernel | (repeat first | rw [new_n] | rw [put_n])) only [wpS, wpT, Nat.reduceEqDiff, reduceIte, Nat.reduceLT, Nat.reduceLeDiff, Nat.reduceAdd, Nat.reduceMul, Nat.reduceBEq, Int.reduceToNat, zc59, ld32, ld35, bv59, st59, fa103_0, ld3, es44, fa103_2, ld101, fa35_3, ln44, ln38, ld59, rp2]
              rfl
            · simp -dsimp (maxSteps := 1000000) (disch := first | omega | (simp only [new_n, put_n]; omega) | decide +kernel | (repeat first | rw [new_n] | rw [put_n])) only [wpS, wpT, Nat.reduceEqDiff, reduceIte, Nat.reduceLT, Nat.reduceLeDiff, Nat.reduceAdd, Nat.reduceMul, Nat.reduceBEq, Int.reduceToNat, zc59, ld32, ld35, bv59, st59, fa103_0, ld3, es44, fa103_2, ld101, fa35_3, ln44, ln38, ld59, rp3]
              rfl
            · simp -dsimp (maxSteps := 1000000) (disch := first | omega | (simp only [new_n, put_n]; omega) | decide +kernel | (repeat first | rw [new_n] | rw [put_n])) only [wpS, wpT, Nat.reduceEqDiff, reduceIte, Nat.reduceLT, Nat.reduceLeDiff, Nat.reduceAdd, Nat.reduceMul, Nat.reduceBEq, Int.reduceToNat, zc59, ld32, ld35, bv59, st59, fa103_0, ld3, es44, fa103_2, ld101, fa35_3, ln44, ln38, ld59, hr3]
            · simp -dsimp (maxSteps := 1000000) (disch := first | omega | (simp only [new_n, put_n]; omega) | decide +kernel | (repeat first | rw [new_n] | rw [put_n])) only [wpS, wpT, Nat.reduceEqDiff, reduceIte, Nat.reduceLT, Nat.reduceLeDiff, Nat.reduceAdd, Nat.reduceMul, Nat.reduceBEq, Int.reduceToNat, zc59, ld32, ld35, bv59, st59, fa103_0, ld3, es44, fa103_2, ld101, fa35_3, ln44, ln38, ld59, hr2]
            simp -dsimp (maxSteps := 1000000) (disch := first | omega | (simp only [new_n, put_n]; omega) | decide +kernel | (repeat first | rw [new_n] | rw [put_n])) only [wpS, wpT, Nat.reduceEqDiff, reduceIte, Nat.reduceLT, Nat.reduceLeDiff, Nat.reduceAdd, Nat.reduceMul, Nat.reduceBEq, Int.reduceToNat, zc59, ld32, ld35, bv59, st59, fa103_0, ld3, es44, fa103_2, ld101, fa35_3, ln44, ln38, ld59, eb, g60]
            refine ⟨d - 1, by omega, l + 1, b2 + after F (lab cs node l) (above n node) k, es4, by omega, ?_, by omega, (hM2.trans (hE3.mem _)).trans hE4, hm4, hMm4, (hcv2.keep hE3.keep).keep (hE4.keep hm3), by simp [g4], by simp [g6], by simp [g8], by simp, by simp [g11], by simp [g12], by simp [g13], by simp [g14], by simp [g34], by simp [g35], by simp [g36], by simp [g59], by simp⟩
            rw [sumTo, hb2, Nat.add_assoc]
          · obtain rfl : l = cn := by omega
            simp -dsimp (maxSteps := 1000000) (disch := first | omega | (simp only [new_n, put_n]; omega) | decide +kernel | (repeat first | rw [new_n] | rw [put_n])) only [wpS, wpT, Nat.reduceEqDiff, reduceIte, Nat.reduceLT, Nat.reduceLeDiff, Nat.reduceAdd, Nat.reduceMul, Nat.reduceBEq, Int.reduceToNat, zc59, ld32, ld35, bv59, st59, fa103_0, ld3, es44, fa103_2, ld101, fa35_3, ln44, ln38, ld59, g4, g6, g8, g10, g11, g12, g13, g14, g34, g35, g36, g59, g60]
            refine call (labelled_ok hcv2 hne (by omega) e64 (node := node) (label := l) (by omega) (by omega)) ?_
            rintro v3 h3 ⟨hE3, hv3⟩
            have hm3 : h3.ext.get q.m = some (.map es2) := by rw [hE3.get _ hF2.lm]; exact hm2
            simp -dsimp (maxSteps := 1000000) (disch := first | omega | (simp only [new_n, put_n]; omega) | decide +kernel | (repeat first | rw [new_n] | rw [put_n])) only [wpS, wpT, Nat.reduceEqDiff, reduceIte, Nat.reduceLT, Nat.reduceLeDiff, Nat.reduceAdd, Nat.reduceMul, Nat.reduceBEq, Int.reduceToNat, zc59, ld32, ld35, bv59, st59, fa103_0, ld3, es44, fa103_2, ld101, fa35_3, ln44, ln38, ld59, g4, g6, g8, g10, g11, g12, g13, g14, g34, g35, g36, g59, g60]
            rw [← hb2] at hidx
            refine ⟨m - 1, by omega, node + 1, b2, lab cs node l, v3, es2, by omega, hM2.trans (hE3.mem _), hm3, hMm2, hv3, .inr (by rw [lab_len]; split <;> omega), by rw [lab_len]; split <;> omega, lab_mem hnode hcs, ?_, hidx, by simp [g4], by simp [g6], by simp [g8], by simp [g10], by simp, by simp [g34], by simp [g35], by simp⟩
            have : l * 68719476736 ≤ 12 * 68719476736 := Nat.mul_le_mul_right _ (by omega)
            omega
    · obtain rfl : node = n := by omega
      simp -dsimp (maxSteps := 1000000) (disch := first | omega | (simp only [new_n, put_n]; omega) | decide +kernel | (repeat first | rw [new_n] | rw [put_n])) only [wpS, wpT, Nat.reduceEqDiff, reduceIte, Nat.reduceLT, Nat.reduceLeDiff, Nat.reduceAdd, Nat.reduceMul, Nat.reduceBEq, Int.reduceToNat, zc59, ld32, ld35, bv59, st59, fa103_0, ld3, es44, fa103_2, ld101, fa35_3, ln44, ln38, ld59, f4, f6, f8, f10, f11, f34, f35, f36, rph, hrh]
      rw [List.drop_of_length_le (by omega), idxGo] at hidx
      refine call (complete_ok hn12 cs (by omega) hFh hmh hMmh (Nat.pow_pos (by omega)) hcs hcv (by omega)) ?_
      rintro _ h4 ⟨rfl, hE4, es4, hm4, hMm4⟩
      have hhn := hMh.n
      have hg4 : h4.ext.get (h.n + 2) = some (.cells [.int .u64 0, .int .u64 0, .int .u64 0, .int .u64 0, .int .u64 0, .int .u64 0, .int .u64 0, .int .u64 0] 0 none) := by rw [hE4.get _ (by omega) (by omega)]; exact hgh
      have hE5 := Mem.ext hEh (by omega) hE4
      by_cases h1c : after F cs 0 k = 1
      · rw [h1c]
        simp -dsimp (maxSteps := 1000000) (disch := first | omega | (simp only [new_n, put_n]; omega) | decide +kernel | (repeat first | rw [new_n] | rw [put_n])) only [wpS, wpT, Nat.reduceEqDiff, reduceIte, Nat.reduceLT, Nat.reduceLeDiff, Nat.reduceAdd, Nat.reduceMul, Nat.reduceBEq, Int.reduceToNat, zc59, ld32, ld35, bv59, st59, fa103_0, ld3, es44, fa103_2, ld101, fa35_3, ln44, ln38, ld59, f10]
        refine call (wideOf_ok (b : Int) ⟨by omega, by omega⟩) ?_
        rintro _ h6 ⟨hE6, rfl⟩
        have h4n := hE4.n
        have hg6 : h6.ext.get (h.n + 2) = some (.cells [.int .u64 0, .int .u64 0, .int .u64 0, .int .u64 0, .int .u64 0, .int .u64 0, .int .u64 0, .int .u64 0] 0 none) := by rw [hE6.get _ (by omega)]; exact hg4
        simp -dsimp (maxSteps := 1000000) (disch := first | omega | (simp only [new_n, put_n]; omega) | decide +kernel | (repeat first | rw [new_n] | rw [put_n])) only [wpS, wpT, Nat.reduceEqDiff, reduceIte, Nat.reduceLT, Nat.reduceLeDiff, Nat.reduceAdd, Nat.reduceMul, Nat.reduceBEq, Int.reduceToNat, zc59, ld32, ld35, bv59, st59, fa103_0, ld3, es44, fa103_2, ld101, fa35_3, ln44, ln38, ld59, f6, hg6, wdV_form, wdC_len, wdC_all, hspl, wd_take]
        refine ⟨(hE5.trans hE6).put (by omega) _, ?_⟩
        rw [if_pos hpn, ← hidx]
        simp only [h1c, if_true]
        rfl
      · have ec : (((after F cs 0 k : Nat) : Int) != 1) = true := by simp; omega
        simp -dsimp (maxSteps := 1000000) (disch := first | omega | (simp only [new_n, put_n]; omega) | decide +kernel | (repeat first | rw [new_n] | rw [put_n])) only [wpS, wpT, Nat.reduceEqDiff, reduceIte, Nat.reduceLT, Nat.reduceLeDiff, Nat.reduceAdd, Nat.reduceMul, Nat.reduceBEq, Int.reduceToNat, zc59, ld32, ld35, bv59, st59, fa103_0, ld3, es44, fa103_2, ld101, fa35_3, ln44, ln38, ld59, f6, hg4, ec]
        refine ⟨hE5.put (by omega) _, ?_⟩
        rw [if_pos hpn, ← hidx]
        simp only [h1c, if_false]
        rfl
  · have epn : ((p.length : Int) != (n : Int)) = true := by simp; omega
    simp -dsimp (maxSteps := 1000000) (disch := first | omega | (simp only [new_n, put_n]; omega) | decide +kernel | (repeat first | rw [new_n] | rw [put_n])) only [wpS, wpT, Nat.reduceEqDiff, reduceIte, Nat.reduceLT, Nat.reduceLeDiff, Nat.reduceAdd, Nat.reduceMul, Nat.reduceBEq, Int.reduceToNat, zc59, ld32, ld35, bv59, st59, fa103_0, ld3, es44, fa103_2, ld101, fa35_3, ln44, ln38, ld59, hx1.len sl44, rp, epn, hg1]
    refine ⟨hE2.put (by omega) _, ?_⟩
    rw [if_neg hpn]
    rfl
theorem index_err {h : IH} {n : Int} {E : List (Int × Int)} {v w x : Value} {ws : List Int} {lo hi d : Int} (hn : In64 n) (hE : SlOf h 2 v E.length (eCells E)) (hlen : E.length < 1000000000) (hI : ∀ e ∈ E, In64 e.1 ∧ In64 e.2)
    (hW : SlOf h 1 w ws.length (ws.map KI)) (wl : ws.length ≤ 1000000) (wI : ∀ x ∈ ws, In64 x) (hlo : In64 lo) (hhi : In64 hi) (hd : In64 d) (herr : enErr n E ws lo hi d ≠ 0) :
    WV Proofs.Tryd.prog (.func (.func 24) #[] #[]) [.agg #[KI n, v], .agg #[w, KI lo, KI hi, KI d], x] h fun r h' => Ext h h' ∧ r = .tuple #[wdV 0, KI (enErr n E ws lo hi d)] := by
  refine enter (nt := 95) (rs := [.cell 6 59, .tmp 7]) Proofs.Tryd.func24 rfl rfl rfl (by simp) ?_
  simp -dsimp (maxSteps := 1000000) (disch := first | omega | (simp only [new_n, put_n]; omega) | decide +kernel | (repeat first | rw [new_n] | rw [put_n])) only [wpS, wpT, Nat.reduceEqDiff, reduceIte, Nat.reduceLT, Nat.reduceLeDiff, Nat.reduceAdd, Nat.reduceMul, Nat.reduceBEq, Int.reduceToNat, zc59, ld32, ld35, bv59, st59, fa103_0, ld3, es44, fa103_2, ld101, fa35_3, ln44, ln38, ld59]
  have e0 : ∀ o1 o2 o3, Ext h (((h.new o1).new o2).new o3) := fun o1 o2 o3 => (((Ext.refl h).new _).new _).new _
  refine call (open_err hn (hE.keep (e0 _ _ _).keep) hlen hI (hW.keep (e0 _ _ _).keep) wl wI hlo hhi hd herr) ?_
  rintro r h1 ⟨hE1, rfl⟩
  have hg : h1.ext.get (h.n + 1 + 1) = some (.cells [.int .u64 0, .int .u64 0, .int .u64 0, .int .u64 0, .int .u64 0, .int .u64 0, .int .u64 0, .int .u64 0] 0 none) := by
    rw [hE1.get _ (by simp only [new_n]; omega)]; simp (disch := first | omega | (simp only [new_n, put_n]; omega) | (repeat first | rw [new_n] | rw [put_n])) only [get_new_same, get_new_old, get_put_same, get_put_old]
  have hne : (enErr n E ws lo hi d != 0) = true := by simpa using herr
  simp -dsimp (maxSteps := 1000000) (disch := first | omega | (simp only [new_n, put_n]; omega) | decide +kernel | (repeat first | rw [new_n] | rw [put_n])) only [wpS, wpT, Nat.reduceEqDiff, reduceIte, Nat.reduceLT, Nat.reduceLeDiff, Nat.reduceAdd, Nat.reduceMul, Nat.reduceBEq, Int.reduceToNat, zc59, ld32, ld35, bv59, st59, fa103_0, ld3, es44, fa103_2, ld101, fa35_3, ln44, ln38, ld59, hg, hne]
  exact ⟨((e0 _ _ _).trans hE1).put (by omega) _, rfl⟩
end Go.Id

/-! Contracts: the examples' parts: path, cycle, ones; two lists of plans compared. -/
namespace Go.Id
open Go

theorem path_ok {h : IH} : WV Proofs.Tryd.prog (.func (.func 26) #[] #[]) [] h fun r h' => Ext h h' ∧ ∃ v, r = .agg #[KI ((4 : Nat) : Int), v] ∧ SlOf h' 2 v 3 (eCells (castE [(0, 1), (1, 2), (2, 3)])) := by
  refine enter (nt := 6) (rs := [.cell 0 32]) Proofs.Tryd.func26 rfl rfl rfl (by simp) ?_
  simp -dsimp (maxSteps := 1000000) (disch := first | omega | (simp only [new_n, put_n]; omega) | decide +kernel | (repeat first | rw [new_n] | rw [put_n])) only [wpS, wpT, Nat.reduceEqDiff, reduceIte, Nat.reduceLT, Nat.reduceLeDiff, Nat.reduceAdd, Nat.reduceMul, Nat.reduceBEq, Int.reduceToNat, zc32, bv52, pl52_0, pl52_1, bs30, bv32, pl32_0, pl32_1, st32, ld32]
  refine ⟨(((Ext.refl h).new _).new _).put (by omega) _, _, rfl, sl_block (k := h.n + 1) (f := none) ?_ (by simp only [new_n, put_n]; omega) (by decide) rfl (by decide) (by decide)⟩
  simp (disch := first | omega | (simp only [new_n, put_n]; omega) | (repeat first | rw [new_n] | rw [put_n])) only [get_new_same, get_new_old, get_put_same, get_put_old]
  rfl
theorem cycle_ok {h : IH} : WV Proofs.Tryd.prog (.func (.func 49) #[] #[]) [] h fun r h' => Ext h h' ∧ ∃ v, r = .agg #[KI ((4 : Nat) : Int), v] ∧ SlOf h' 2 v 4 (eCells (castE [(0, 1), (0, 3), (1, 2), (2, 3)])) := by
  refine enter (nt := 7) (rs := [.cell 0 32]) Proofs.Tryd.func49 rfl rfl rfl (by simp) ?_
  simp -dsimp (maxSteps := 1000000) (disch := first | omega | (simp only [new_n, put_n]; omega) | decide +kernel | (repeat first | rw [new_n] | rw [put_n])) only [wpS, wpT, Nat.reduceEqDiff, reduceIte, Nat.reduceLT, Nat.reduceLeDiff, Nat.reduceAdd, Nat.reduceMul, Nat.reduceBEq, Int.reduceToNat, zc32, bv52, pl52_0, pl52_1, bs30, bv32, pl32_0, pl32_1, st32, ld32]
  refine ⟨(((Ext.refl h).new _).new _).put (by omega) _, _, rfl, sl_block (k := h.n + 1) (f := none) ?_ (by simp only [new_n, put_n]; omega) (by decide) rfl (by decide) (by decide)⟩
  simp (disch := first | omega | (simp only [new_n, put_n]; omega) | (repeat first | rw [new_n] | rw [put_n])) only [get_new_same, get_new_old, get_put_same, get_put_old]
  rfl
theorem ones_ok {h : IH} (n : Nat) (lo hi d : Int) (hn : n ≤ 1000) : WV Proofs.Tryd.prog (.func (.func 21) #[] #[]) [KI n, KI lo, KI hi, KI d] h fun r h' => Ext h h' ∧ ∃ w, r = .agg #[w, KI lo, KI hi, KI d] ∧ SlOf h' 1 w n (List.replicate n (KI 1)) := by
  refine enter (nt := 16) (rs := [.cell 8 35]) Proofs.Tryd.func21 rfl rfl rfl (by simp) ?_
  simp -dsimp (maxSteps := 1000000) (disch := first | omega | (simp only [new_n, put_n]; omega) | decide +kernel | (repeat first | rw [new_n] | rw [put_n])) only [wpS, wpT, Nat.reduceEqDiff, reduceIte, Nat.reduceLT, Nat.reduceLeDiff, Nat.reduceAdd, Nat.reduceMul, Nat.reduceBEq, Int.reduceToNat, zc35, bs33, bv35, pl35_0, pl35_1, pl35_2, pl35_3, st35, ld35]
  have e0 : ∀ o1 o2, Ext h ((h.new o1).new o2) := fun o1 o2 => ((Ext.refl h).new _).new _
  refine call (repeat_ok 1 (sl_block (k := h.n + 1) (f := none) (cs := [KI 1]) ?_ (by simp only [new_n]; omega) (by decide) rfl (by decide) (by decide)) n (by omega)) ?_
  · simp (disch := first | omega | (simp only [new_n, put_n]; omega) | (repeat first | rw [new_n] | rw [put_n])) only [get_new_same, get_new_old, get_put_same, get_put_old]
  rintro r h1 ⟨hE1, hs⟩
  have hg : h1.ext.get h.n = some (.cells [.slice none 0 0, .int .i64 0, .int .i64 0, .int .i64 0] 0 none) := by
    rw [hE1.get _ (by simp only [new_n]; omega)]; simp (disch := first | omega | (simp only [new_n, put_n]; omega) | (repeat first | rw [new_n] | rw [put_n])) only [get_new_same, get_new_old, get_put_same, get_put_old]
  simp -dsimp (maxSteps := 1000000) (disch := first | omega | (simp only [new_n, put_n]; omega) | decide +kernel | (repeat first | rw [new_n] | rw [put_n])) only [wpS, wpT, Nat.reduceEqDiff, reduceIte, Nat.reduceLT, Nat.reduceLeDiff, Nat.reduceAdd, Nat.reduceMul, Nat.reduceBEq, Int.reduceToNat, zc35, bs33, bv35, pl35_0, pl35_1, pl35_2, pl35_3, st35, ld35, hg, hs.cells, hs.cok]
  refine ⟨((e0 _ _).trans hE1).put (by omega) _, r, rfl, hs.keep (Keep.put (Keep.refl _) hg _)⟩
theorem samePlan_ok {h : IH} {v w : Value} {a b : List Int} (ha : SlOf h 1 v a.length (a.map KI)) (hb : SlOf h 1 w b.length (b.map KI)) (la : a.length ≤ 1000000000) :
    WV Proofs.Tryd.prog (.func (.func 47) #[] #[]) [v, w] h fun r h' => h' = h ∧ r = .bool (decide (a = b)) := by
  have hln : a.length = b.length ∨ a.length ≠ b.length := by omega
  have ha := ha.now
  have hb := hb.now
  refine enter (nt := 26) (rs := [.tmp 4]) Proofs.Tryd.func47 rfl rfl rfl (by simp) ?_
  simp -dsimp (maxSteps := 1000000) (disch := first | omega | (simp only [new_n, put_n]; omega) | decide +kernel | (repeat first | rw [new_n] | rw [put_n])) only [wpS, wpT, Nat.reduceEqDiff, reduceIte, Nat.reduceLT, Nat.reduceLeDiff, Nat.reduceAdd, Nat.reduceMul, Nat.reduceBEq, Int.reduceToNat, es44, ld3, ln44, ha.len sl44, hb.len sl44]
  refine bq_intro ?_ ?_ <;> intro hc <;> simp only [bne_iff_ne, beq_iff_eq, decide_eq_true_eq, decide_eq_false_iff_not, bne_eq_false_iff_eq, beq_eq_false_iff_ne, ne_eq, Bool.not_eq_true', Bool.not_eq_false', Bool.not_eq_true, Bool.not_eq_false, Decidable.not_not, Bool.not_not] at hc
  · simp -dsimp (maxSteps := 1000000) (disch := first | omega | (simp only [new_n, put_n]; omega) | decide +kernel | (repeat first | rw [new_n] | rw [put_n])) only [wpS, wpT, Nat.reduceEqDiff, reduceIte, Nat.reduceLT, Nat.reduceLeDiff, Nat.reduceAdd, Nat.reduceMul, Nat.reduceBEq, Int.reduceToNat, es44, ld3, ln44]
    rw [decide_eq_false]
    rintro rfl; exact hc rfl
  · have hl : a.length = b.length := by omega
    simp -dsimp (maxSteps := 1000000) (disch := first | omega | (simp only [new_n, put_n]; omega) | decide +kernel | (repeat first | rw [new_n] | rw [put_n])) only [wpS, wpT, Nat.reduceEqDiff, reduceIte, Nat.reduceLT, Nat.reduceLeDiff, Nat.reduceAdd, Nat.reduceMul, Nat.reduceBEq, Int.reduceToNat, es44, ld3, ln44, ha.len sl44]
    refine loop (fun m fr h1 => h1 = h ∧ ∃ i : Nat, i + m = a.length ∧ fget fr 0 = some v ∧ fget fr 1 = some w ∧ fget fr 5 = some (KI i) ∧ ∀ j, j < i → a[j]? = b[j]?) a.length ⟨rfl, 0, by simp, by simp, by simp, by simp, by simp⟩ ?_
    rintro m fr h1 ⟨rfl, i, him, f0, f1, f5, hz⟩
    simp -dsimp (maxSteps := 1000000) (disch := first | omega | (simp only [new_n, put_n]; omega) | decide +kernel | (repeat first | rw [new_n] | rw [put_n])) only [wpS, wpT, Nat.reduceEqDiff, reduceIte, Nat.reduceLT, Nat.reduceLeDiff, Nat.reduceAdd, Nat.reduceMul, Nat.reduceBEq, Int.reduceToNat, es44, ld3, ln44, f0, f1, f5, ha.len sl44]
    refine bq_intro ?_ ?_ <;> intro hc2 <;> simp only [bne_iff_ne, beq_iff_eq, decide_eq_true_eq, decide_eq_false_iff_not, bne_eq_false_iff_eq, beq_eq_false_iff_ne, ne_eq, Bool.not_eq_true', Bool.not_eq_false', Bool.not_eq_true, Bool.not_eq_false, Decidable.not_not, Bool.not_not] at hc2
    · have hi : i < a.length := by omega
      obtain ⟨x, hx⟩ : ∃ x, a[i]? = some x := ⟨a[i], List.getElem?_eq_getElem hi⟩
      obtain ⟨y, hy⟩ : ∃ y, b[i]? = some y := ⟨b[i]'(by omega), List.getElem?_eq_getElem (by omega)⟩
      have i1 := ha.idx (P := Proofs.Tryd.prog) es44 (k := .i64) hi
      have i2 := hb.idx (P := Proofs.Tryd.prog) es44 (k := .i64) (show i < b.length by omega)
      have l1 := ha.ld (P := Proofs.Tryd.prog) (t := 3) (c := i) (by simpa using hi) ag3
      have l2 := hb.ld (P := Proofs.Tryd.prog) (t := 3) (c := i) (by simp; omega) ag3
      rw [Nat.mul_one] at i1 i2
      rw [List.getElem?_map, hx] at l1
      rw [List.getElem?_map, hy] at l2
      simp only [Option.map_some] at l1 l2
      simp -dsimp (maxSteps := 1000000) (disch := first | omega | (simp only [new_n, put_n]; omega) | decide +kernel | (repeat first | rw [new_n] | rw [put_n])) only [wpS, wpT, Nat.reduceEqDiff, reduceIte, Nat.reduceLT, Nat.reduceLeDiff, Nat.reduceAdd, Nat.reduceMul, Nat.reduceBEq, Int.reduceToNat, es44, ld3, ln44, f0, f1, f5, i1, i2, l1, l2]
      refine bq_intro ?_ ?_ <;> intro hc3 <;> simp only [bne_iff_ne, beq_iff_eq, decide_eq_true_eq, decide_eq_false_iff_not, bne_eq_false_iff_eq, beq_eq_false_iff_ne, ne_eq, Bool.not_eq_true', Bool.not_eq_false', Bool.not_eq_true, Bool.not_eq_false, Decidable.not_not, Bool.not_not] at hc3
      · simp -dsimp (maxSteps := 1000000) (disch := first | omega | (simp only [new_n, put_n]; omega) | decide +kernel | (repeat first | rw [new_n] | rw [put_n])) only [wpS, wpT, Nat.reduceEqDiff, reduceIte, Nat.reduceLT, Nat.reduceLeDiff, Nat.reduceAdd, Nat.reduceMul, Nat.reduceBEq, Int.reduceToNat, es44, ld3, ln44]
        rw [decide_eq_false]
        rintro rfl
        rw [hx] at hy; cases hy; exact hc3 rfl
      · simp -dsimp (maxSteps := 1000000) (disch := first | omega | (simp only [new_n, put_n]; omega) | decide +kernel | (repeat first | rw [new_n] | rw [put_n])) only [wpS, wpT, Nat.reduceEqDiff, reduceIte, Nat.reduceLT, Nat.reduceLeDiff, Nat.reduceAdd, Nat.reduceMul, Nat.reduceBEq, Int.reduceToNat, es44, ld3, ln44, f5]
        refine ⟨m - 1, by omega, rfl, i + 1, by omega, by simp [f0], by simp [f1], by simp, fun j hj => ?_⟩
        by_cases hji : j = i
        · subst hji; rw [hx, hy, hc3]
        · exact hz j (by omega)
    · simp -dsimp (maxSteps := 1000000) (disch := first | omega | (simp only [new_n, put_n]; omega) | decide +kernel | (repeat first | rw [new_n] | rw [put_n])) only [wpS, wpT, Nat.reduceEqDiff, reduceIte, Nat.reduceLT, Nat.reduceLeDiff, Nat.reduceAdd, Nat.reduceMul, Nat.reduceBEq, Int.reduceToNat, es44, ld3, ln44]
      rw [decide_eq_true]
      apply List.ext_getElem?
      intro j
      by_cases hj : j < i
      · exact hz j hj
      · rw [List.getElem?_eq_none (by omega), List.getElem?_eq_none (by omega)]
theorem i64s_int (p : List Nat) : i64s p = (p.map fun (l : Nat) => (l : Int)).map KI := by simp [i64s]
theorem natInt_inj {p q : List Nat} (h : (p.map fun (l : Nat) => (l : Int)) = q.map fun (l : Nat) => (l : Int)) : p = q := List.map_inj_right (fun _ _ h => Int.ofNat.inj h) |>.1 h
theorem samePlanN_ok {h : IH} {v w : Value} {a b : List Nat} (ha : SlOf h 1 v a.length (i64s a)) (hb : SlOf h 1 w b.length (i64s b)) (la : a.length ≤ 1000000000) :
    WV Proofs.Tryd.prog (.func (.func 47) #[] #[]) [v, w] h fun r h' => h' = h ∧ r = .bool (decide (a = b)) := by
  refine WV.mono (samePlan_ok (a := a.map fun (l : Nat) => (l : Int)) (b := b.map fun (l : Nat) => (l : Int)) (by rw [List.length_map, ← i64s_int]; exact ha) (by rw [List.length_map, ← i64s_int]; exact hb) (by simpa using la)) ?_
  rintro r h' ⟨rfl, rfl⟩
  refine ⟨rfl, ?_⟩
  have : ((a.map fun (l : Nat) => (l : Int)) = b.map fun (l : Nat) => (l : Int)) ↔ a = b := ⟨natInt_inj, fun h => by rw [h]⟩
  simp only [this]
theorem samePlans_ok {h : IH} {v w : Value} {ps qs : List (List Nat)} (ha : PlansAt h v ps) (hb : PlansAt h w qs) (la : ps.length ≤ 1000000000) (lp : ∀ p ∈ ps, p.length ≤ 1000000000) :
    WV Proofs.Tryd.prog (.func (.func 44) #[] #[]) [v, w] h fun r h' => h' = h ∧ r = .bool (decide (ps = qs)) := by
  obtain ⟨vs, ha, hva⟩ := ha
  obtain ⟨us, hb, hub⟩ := hb
  have hln : ps.length = qs.length ∨ ps.length ≠ qs.length := by omega
  have la2 := ha.2.1
  have lb2 := hb.2.1
  have ha := ha.now
  have hb := hb.now
  refine enter (nt := 27) (rs := [.tmp 4]) Proofs.Tryd.func44 rfl rfl rfl (by simp) ?_
  simp -dsimp (maxSteps := 1000000) (disch := first | omega | (simp only [new_n, put_n]; omega) | decide +kernel | (repeat first | rw [new_n] | rw [put_n])) only [wpS, wpT, Nat.reduceEqDiff, reduceIte, Nat.reduceLT, Nat.reduceLeDiff, Nat.reduceAdd, Nat.reduceMul, Nat.reduceBEq, Int.reduceToNat, es42, ld44, ln42, ha.len sl42, hb.len sl42]
  refine bq_intro ?_ ?_ <;> intro hc <;> simp only [bne_iff_ne, beq_iff_eq, decide_eq_true_eq, decide_eq_false_iff_not, bne_eq_false_iff_eq, beq_eq_false_iff_ne, ne_eq, Bool.not_eq_true', Bool.not_eq_false', Bool.not_eq_true, Bool.not_eq_false, Decidable.not_not, Bool.not_not] at hc
  · simp -dsimp (maxSteps := 1000000) (disch := first | omega | (simp only [new_n, put_n]; omega) | decide +kernel | (repeat first | rw [new_n] | rw [put_n])) only [wpS, wpT, Nat.reduceEqDiff, reduceIte, Nat.reduceLT, Nat.reduceLeDiff, Nat.reduceAdd, Nat.reduceMul, Nat.reduceBEq, Int.reduceToNat, es42, ld44, ln42]
    rw [decide_eq_false]
    rintro rfl; exact hc rfl
  · have hl : ps.length = qs.length := by omega
    simp -dsimp (maxSteps := 1000000) (disch := first | omega | (simp only [new_n, put_n]; omega) | decide +kernel | (repeat first | rw [new_n] | rw [put_n])) only [wpS, wpT, Nat.reduceEqDiff, reduceIte, Nat.reduceLT, Nat.reduceLeDiff, Nat.reduceAdd, Nat.reduceMul, Nat.reduceBEq, Int.reduceToNat, es42, ld44, ln42, ha.len sl42]
    refine loop (fun m fr h1 => h1 = h ∧ ∃ i : Nat, i + m = ps.length ∧ fget fr 0 = some v ∧ fget fr 1 = some w ∧ fget fr 5 = some (KI i) ∧ ∀ j, j < i → ps[j]? = qs[j]?) ps.length ⟨rfl, 0, by simp, by simp, by simp, by simp, by simp⟩ ?_
    rintro m fr h1 ⟨rfl, i, him, f0, f1, f5, hz⟩
    simp -dsimp (maxSteps := 1000000) (disch := first | omega | (simp only [new_n, put_n]; omega) | decide +kernel | (repeat first | rw [new_n] | rw [put_n])) only [wpS, wpT, Nat.reduceEqDiff, reduceIte, Nat.reduceLT, Nat.reduceLeDiff, Nat.reduceAdd, Nat.reduceMul, Nat.reduceBEq, Int.reduceToNat, es42, ld44, ln42, f0, f1, f5, ha.len sl42]
    refine bq_intro ?_ ?_ <;> intro hc2 <;> simp only [bne_iff_ne, beq_iff_eq, decide_eq_true_eq, decide_eq_false_iff_not, bne_eq_false_iff_eq, beq_eq_false_iff_ne, ne_eq, Bool.not_eq_true', Bool.not_eq_false', Bool.not_eq_true, Bool.not_eq_false, Decidable.not_not, Bool.not_not] at hc2
    · have hi : i < ps.length := by omega
      obtain ⟨x, hx⟩ : ∃ x, ps[i]? = some x := ⟨ps[i], List.getElem?_eq_getElem hi⟩
      obtain ⟨y, hy⟩ : ∃ y, qs[i]? = some y := ⟨qs[i]'(by omega), List.getElem?_eq_getElem (by omega)⟩
      obtain ⟨vx, hvx, hsx⟩ := hva i x hx
      obtain ⟨vy, hvy, hsy⟩ := hub i y hy
      have i1 := ha.idx (P := Proofs.Tryd.prog) es42 (k := .i64) hi
      have i2 := hb.idx (P := Proofs.Tryd.prog) es42 (k := .i64) (show i < qs.length by omega)
      have l1 := ha.ld (P := Proofs.Tryd.prog) (t := 44) (c := i) (by omega) ag44
      have l2 := hb.ld (P := Proofs.Tryd.prog) (t := 44) (c := i) (by omega) ag44
      rw [Nat.mul_one] at i1 i2
      rw [hvx] at l1
      rw [hvy] at l2
      simp -dsimp (maxSteps := 1000000) (disch := first | omega | (simp only [new_n, put_n]; omega) | decide +kernel | (repeat first | rw [new_n] | rw [put_n])) only [wpS, wpT, Nat.reduceEqDiff, reduceIte, Nat.reduceLT, Nat.reduceLeDiff, Nat.reduceAdd, Nat.reduceMul, Nat.reduceBEq, Int.reduceToNat, es42, ld44, ln42, f0, f1, f5, i1, i2, l1, l2]
      refine call (samePlanN_ok hsx hsy (lp x (List.mem_of_getElem? hx))) ?_
      rintro _ _ ⟨rfl, rfl⟩
      simp -dsimp (maxSteps := 1000000) (disch := first | omega | (simp only [new_n, put_n]; omega) | decide +kernel | (repeat first | rw [new_n] | rw [put_n])) only [wpS, wpT, Nat.reduceEqDiff, reduceIte, Nat.reduceLT, Nat.reduceLeDiff, Nat.reduceAdd, Nat.reduceMul, Nat.reduceBEq, Int.reduceToNat, es42, ld44, ln42]
      refine bq_intro ?_ ?_ <;> intro hc3 <;> simp only [bne_iff_ne, beq_iff_eq, decide_eq_true_eq, decide_eq_false_iff_not, bne_eq_false_iff_eq, beq_eq_false_iff_ne, ne_eq, Bool.not_eq_true', Bool.not_eq_false', Bool.not_eq_true, Bool.not_eq_false, Decidable.not_not, Bool.not_not] at hc3
      · simp -dsimp (maxSteps := 1000000) (disch := first | omega | (simp only [new_n, put_n]; omega) | decide +kernel | (repeat first | rw [new_n] | rw [put_n])) only [wpS, wpT, Nat.reduceEqDiff, reduceIte, Nat.reduceLT, Nat.reduceLeDiff, Nat.reduceAdd, Nat.reduceMul, Nat.reduceBEq, Int.reduceToNat, es42, ld44, ln42]
        rw [decide_eq_false]
        rintro rfl
        rw [hx] at hy; cases hy; exact hc3 rfl
      · simp -dsimp (maxSteps := 1000000) (disch := first | omega | (simp only [new_n, put_n]; omega) | decide +kernel | (repeat first | rw [new_n] | rw [put_n])) only [wpS, wpT, Nat.reduceEqDiff, reduceIte, Nat.reduceLT, Nat.reduceLeDiff, Nat.reduceAdd, Nat.reduceMul, Nat.reduceBEq, Int.reduceToNat, es42, ld44, ln42, f5]
        refine ⟨m - 1, by omega, rfl, i + 1, by omega, by simp [f0], by simp [f1], by simp, fun j hj => ?_⟩
        by_cases hji : j = i
        · subst hji; rw [hx, hy, hc3]
        · exact hz j (by omega)
    · simp -dsimp (maxSteps := 1000000) (disch := first | omega | (simp only [new_n, put_n]; omega) | decide +kernel | (repeat first | rw [new_n] | rw [put_n])) only [wpS, wpT, Nat.reduceEqDiff, reduceIte, Nat.reduceLT, Nat.reduceLeDiff, Nat.reduceAdd, Nat.reduceMul, Nat.reduceBEq, Int.reduceToNat, es42, ld44, ln42]
      rw [decide_eq_true]
      apply List.ext_getElem?
      intro j
      by_cases hj : j < i
      · exact hz j hj
      · rw [List.getElem?_eq_none (by omega), List.getElem?_eq_none (by omega)]
end Go.Id

/-! Contracts: counts, lists; the search of a number in a rising list. -/
namespace Go.Id
open Go

theorem wideN_inj {a b : Int} (ha : In64 a) (hb : In64 b) : wideN a = wideN b ↔ a = b := by
  have hh := H8_big
  have hw := W8_two
  have h1 : InW a := by unfold InW; omega
  have h2 : InW b := by unfold InW; omega
  constructor
  · intro h
    rw [← wdI_wideN h1, ← wdI_wideN h2, h]
  · rintro rfl; rfl
theorem inW_of64 {a : Int} (ha : In64 a) : InW a := by
  have hh := H8_big
  unfold InW; omega
theorem wideN_small {a : Int} (ha : In64 a) : wideN a < W8 := wideN_lt (inW_of64 ha)
/-- The total is small. -/
theorem totalP_small {n : Nat} {E : List (Nat × Nat)} {ws : List Int} {lo hi : Int} {k : Nat} (hok : enErr n (castE E) ws lo hi k = 0) : totalP n E ws lo hi k ≤ 68719476736 := by
  obtain ⟨hG, hn0, hn12, hV, hlen, hwl, hws, hd1, hd2, hlo, hlohi⟩ := enErr_ok hok
  have hp0 : 0 < 2 ^ n := Nat.pow_pos (by omega)
  exact after_small _ [] hn12 (by omega) (by omega)
theorem counts_ok {h : IH} (hB : BaseT h) {n : Nat} {E : List (Nat × Nat)} {v w : Value} {ws : List Int} {lo hi : Int} {k : Nat} (a : ArgsAt h n E v w ws lo hi k) (want : Int) (hwant : In64 want) :
    WV Proofs.Tryd.prog (.func (.func 20) #[] #[]) [.agg #[KI n, v], .agg #[w, KI lo, KI hi, KI k], KI want] h fun r h' => Ext h h' ∧ r = .bool (decide ((totalP n E ws lo hi k : Int) = want)) := by
  have hts := totalP_small a.ok
  refine enter (nt := 23) (rs := [.tmp 6]) Proofs.Tryd.func20 rfl rfl rfl (by simp) ?_
  simp -dsimp (maxSteps := 1000000) (disch := first | omega | (simp only [new_n, put_n]; omega) | decide +kernel | (repeat first | rw [new_n] | rw [put_n])) only [wpS, wpT, Nat.reduceEqDiff, reduceIte, Nat.reduceLT, Nat.reduceLeDiff, Nat.reduceAdd, Nat.reduceMul, Nat.reduceBEq, Int.reduceToNat, ld32, ld35, zc59, st59, ld59]
  have e0 : ∀ o1 o2, Ext h ((h.new o1).new o2) := fun o1 o2 => ((Ext.refl h).new _).new _
  have a0 := a.keep (e0 (.cells [KI n, v] 0 none) (.cells [w, KI lo, KI hi, KI k] 0 none)).keep
  refine call (count_ok (hB.ext (e0 _ _)) a0) ?_
  rintro _ h1 ⟨hE1, rfl⟩
  have hspl : ∀ n, IH.splice [.int .u64 0, .int .u64 0, .int .u64 0, .int .u64 0, .int .u64 0, .int .u64 0, .int .u64 0, .int .u64 0] 0 (wdC n) = wdC n := fun n => splice_all (by rw [wdC_len]; rfl)
  simp -dsimp (maxSteps := 1000000) (disch := first | omega | (simp only [new_n, put_n]; omega) | decide +kernel | (repeat first | rw [new_n] | rw [put_n])) only [wpS, wpT, Nat.reduceEqDiff, reduceIte, Nat.reduceLT, Nat.reduceLeDiff, Nat.reduceAdd, Nat.reduceMul, Nat.reduceBEq, Int.reduceToNat, ld32, ld35, zc59, st59, ld59, wdV_form, wdC_len, wdC_all, hspl, wd_take]
  refine drawn [(3, [9])] (by kernel_rfl) (by kernel_rfl) rfl ?_
  simp -dsimp (maxSteps := 1000000) (disch := first | omega | (simp only [new_n, put_n]; omega) | decide +kernel | (repeat first | rw [new_n] | rw [put_n])) only [wpS, wpT, Nat.reduceEqDiff, reduceIte, Nat.reduceLT, Nat.reduceLeDiff, Nat.reduceAdd, Nat.reduceMul, Nat.reduceBEq, Int.reduceToNat, ld32, ld35, zc59, st59, ld59, wdV_form, wdC_len, wdC_all, hspl, wd_take]
  refine call (refOf_ok want hwant) ?_
  rintro _ h2 ⟨hE2, rfl⟩
  have hT64 : In64 (totalP n E ws lo hi k : Int) := ⟨by omega, by omega⟩
  have hq : ∀ ox oy, binop Proofs.Tryd.prog .eql 59 ox oy (.agg (wdC (wideN (totalP n E ws lo hi k))).toArray) (wideV want) = some (.bool (decide ((totalP n E ws lo hi k : Int) = want))) := fun ox oy => by
    have := wd_eql (wideN_small hT64) (wideN_small hwant) ox oy
    simp only [wideN_inj hT64 hwant] at this
    exact this
  have hg2 : h2.row (2 * h1.n) = some (wdC (wideN (totalP n E ws lo hi k))) := by
    rw [hE2.row (.inr (by simp only [new_n, put_n]; omega)), row_even]; simp only [IH.cells]; simp (disch := first | omega | (simp only [new_n, put_n]; omega) | (repeat first | rw [new_n] | rw [put_n])) only [get_new_same, get_new_old, get_put_same, get_put_old]
  simp -dsimp (maxSteps := 1000000) (disch := first | omega | (simp only [new_n, put_n]; omega) | decide +kernel | (repeat first | rw [new_n] | rw [put_n])) only [wpS, wpT, Nat.reduceEqDiff, reduceIte, Nat.reduceLT, Nat.reduceLeDiff, Nat.reduceAdd, Nat.reduceMul, Nat.reduceBEq, Int.reduceToNat, ld32, ld35, zc59, st59, ld59, hq]
  refine ⟨wpSteady_one rfl rfl rfl rfl (steady_load (av := ptr (2 * h1.n) 0) (v := wideV (totalP n E ws lo hi k)) rfl ?_ ?_), ?_⟩
  · simp -dsimp (maxSteps := 1000000) (disch := first | omega | (simp only [new_n, put_n]; omega) | decide +kernel | (repeat first | rw [new_n] | rw [put_n])) only [wpS, wpT, Nat.reduceEqDiff, reduceIte, Nat.reduceLT, Nat.reduceLeDiff, Nat.reduceAdd, Nat.reduceMul, Nat.reduceBEq, Int.reduceToNat, ld32, ld35, zc59, st59, ld59, wdV_form, wdC_len, wdC_all, hspl, wd_take]
    rfl
  · simp -dsimp (maxSteps := 1000000) (disch := first | omega | (simp only [new_n, put_n]; omega) | decide +kernel | (repeat first | rw [new_n] | rw [put_n])) only [wpS, wpT, Nat.reduceEqDiff, reduceIte, Nat.reduceLT, Nat.reduceLeDiff, Nat.reduceAdd, Nat.reduceMul, Nat.reduceBEq, Int.reduceToNat, ld32, ld35, zc59, st59, ld59, hg2, wdV_form, wdC_len, wdC_all, hspl, wd_take]
    rfl
  simp -dsimp (maxSteps := 1000000) (disch := first | omega | (simp only [new_n, put_n]; omega) | decide +kernel | (repeat first | rw [new_n] | rw [put_n])) only [wpS, wpT, Nat.reduceEqDiff, reduceIte, Nat.reduceLT, Nat.reduceLeDiff, Nat.reduceAdd, Nat.reduceMul, Nat.reduceBEq, Int.reduceToNat, ld32, ld35, zc59, st59, ld59]
  exact (((e0 _ _).trans hE1).trans (((Ext.refl h1).new _).put (Nat.le_refl _) _)).trans hE2
theorem cless_ok {h : IH} (x y : Nat) : WV Proofs.Tryd.prog (.func (.func 64) #[] #[]) [K64 x, K64 y] h fun r h' => h' = h ∧ r = .bool (decide (x < y)) := by
  refine enter (nt := 17) (rs := [.tmp 4]) Proofs.Tryd.func64 rfl rfl rfl (by simp) ?_
  simp -dsimp (maxSteps := 1000000) (disch := first | omega | (simp only [new_n, put_n]; omega) | decide +kernel | (repeat first | rw [new_n] | rw [put_n])) only [wpS, wpT, Nat.reduceEqDiff, reduceIte, Nat.reduceLT, Nat.reduceLeDiff, Nat.reduceAdd, Nat.reduceMul, Nat.reduceBEq, Int.reduceToNat]
  refine call (isNaN_u _) ?_
  rintro _ _ ⟨rfl, rfl⟩
  simp -dsimp (maxSteps := 1000000) (disch := first | omega | (simp only [new_n, put_n]; omega) | decide +kernel | (repeat first | rw [new_n] | rw [put_n])) only [wpS, wpT, Nat.reduceEqDiff, reduceIte, Nat.reduceLT, Nat.reduceLeDiff, Nat.reduceAdd, Nat.reduceMul, Nat.reduceBEq, Int.reduceToNat]
  simp [Int.ofNat_lt]
/-- A rising list. -/
def Rises (l : List Nat) : Prop := l.Pairwise (· < ·)
theorem bsearch_ok {h : IH} {v : Value} {l : List Nat} (hv : SlOf h 1 v l.length (l.map fun s => K64 s)) (hl : Rises l) (hlen : l.length ≤ 1000000) (x : Nat) :
    WV Proofs.Tryd.prog (.func (.func 34) #[] #[]) [v, K64 x] h fun r h' => h' = h ∧ ∃ i : Nat, r = .tuple #[KI i, .bool (decide (x ∈ l))] := by
  have hv := hv.now
  refine enter (nt := 54) (rs := [.tmp 4, .tmp 5]) Proofs.Tryd.func34 rfl rfl rfl (by simp) ?_
  simp -dsimp (maxSteps := 1000000) (disch := first | omega | (simp only [new_n, put_n]; omega) | decide +kernel | (repeat first | rw [new_n] | rw [put_n])) only [wpS, wpT, Nat.reduceEqDiff, reduceIte, Nat.reduceLT, Nat.reduceLeDiff, Nat.reduceAdd, Nat.reduceMul, Nat.reduceBEq, Int.reduceToNat, cv3_116, cv116_3, es38, ld47, ln38, hv.len sl38]
  refine loop (fun m fr h1 => h1 = h ∧ ∃ i j : Nat, j - i = m ∧ i ≤ j ∧ j ≤ l.length ∧ (∀ a, a < i → ∀ y, l[a]? = some y → y < x) ∧ (∀ a, j ≤ a → ∀ y, l[a]? = some y → x ≤ y) ∧ fget fr 0 = some v ∧ fget fr 1 = some (K64 x) ∧ fget fr 6 = some (KI l.length) ∧ fget fr 7 = some (KI i) ∧ fget fr 8 = some (KI j)) l.length
    ?_ ?_
  · refine ⟨rfl, 0, l.length, rfl, by omega, Nat.le_refl _, ?_, ?_, by simp, by simp, by simp, by simp, by simp⟩
    · intro a ha; omega
    · intro a ha y hy; rw [List.getElem?_eq_none ha] at hy; cases hy
  rintro m fr h1 ⟨rfl, i, j, hm, hij, hjl, hlo, hhi, f0, f1, f6, f7, f8⟩
  simp -dsimp (maxSteps := 1000000) (disch := first | omega | (simp only [new_n, put_n]; omega) | decide +kernel | (repeat first | rw [new_n] | rw [put_n])) only [wpS, wpT, Nat.reduceEqDiff, reduceIte, Nat.reduceLT, Nat.reduceLeDiff, Nat.reduceAdd, Nat.reduceMul, Nat.reduceBEq, Int.reduceToNat, cv3_116, cv116_3, es38, ld47, ln38, f0, f1, f6, f7, f8]
  refine bq_intro ?_ ?_ <;> intro hc <;> simp only [bne_iff_ne, beq_iff_eq, decide_eq_true_eq, decide_eq_false_iff_not, bne_eq_false_iff_eq, beq_eq_false_iff_ne, ne_eq, Bool.not_eq_true', Bool.not_eq_false', Bool.not_eq_true, Bool.not_eq_false, Decidable.not_not, Bool.not_not] at hc
  · have hsh : ((nshr ((i : Int) + (j : Int)).toNat 1 : Nat) : Int) = (((i + j) / 2 : Nat) : Int) := by
      rw [show ((i : Int) + (j : Int)).toNat = i + j by omega]; simp [nshr, Nat.shiftRight_eq_div_pow]
    obtain ⟨y, hy⟩ : ∃ y, l[(i + j) / 2]? = some y := ⟨l[(i + j) / 2]'(by omega), List.getElem?_eq_getElem (by omega)⟩
    have i1 := hv.idx (P := Proofs.Tryd.prog) es38 (k := .i64) (j := (i + j) / 2) (by omega)
    have l1 := hv.ld (P := Proofs.Tryd.prog) (t := 47) (c := (i + j) / 2) (by simp; omega) ag47
    rw [Nat.mul_one] at i1
    rw [List.getElem?_map, hy] at l1
    simp only [Option.map_some] at l1
    have mono : ∀ a b y z, a < b → l[a]? = some y → l[b]? = some z → y < z := fun a b y z hab ha hb => by
      obtain ⟨ha1, ha2⟩ := List.getElem?_eq_some_iff.1 ha
      obtain ⟨hb1, hb2⟩ := List.getElem?_eq_some_iff.1 hb
      have := (List.pairwise_iff_getElem.1 hl) a b ha1 hb1 hab
      rw [ha2, hb2] at this; exact this
    simp -dsimp (maxSteps := 1000000) (disch := first | omega | (simp only [new_n, put_n]; omega) | decide +kernel | (repeat first | rw [new_n] | rw [put_n])) only [wpS, wpT, Nat.reduceEqDiff, reduceIte, Nat.reduceLT, Nat.reduceLeDiff, Nat.reduceAdd, Nat.reduceMul, Nat.reduceBEq, Int.reduceToNat, cv3_116, cv116_3, es38, ld47, ln38, f0, f1, f6, f7, f8, hsh, i1, l1]
    refine call (cless_ok y x) ?_
    rintro _ _ ⟨rfl, rfl⟩
    simp -dsimp (maxSteps := 1000000) (disch := first | omega | (simp only [new_n, put_n]; omega) | decide +kernel | (repeat first | rw [new_n] | rw [put_n])) only [wpS, wpT, Nat.reduceEqDiff, reduceIte, Nat.reduceLT, Nat.reduceLeDiff, Nat.reduceAdd, Nat.reduceMul, Nat.reduceBEq, Int.reduceToNat, cv3_116, cv116_3, es38, ld47, ln38]
    refine bq_intro ?_ ?_ <;> intro hlt
    · simp only [decide_eq_true_eq] at hlt
      simp -dsimp (maxSteps := 1000000) (disch := first | omega | (simp only [new_n, put_n]; omega) | decide +kernel | (repeat first | rw [new_n] | rw [put_n])) only [wpS, wpT, Nat.reduceEqDiff, reduceIte, Nat.reduceLT, Nat.reduceLeDiff, Nat.reduceAdd, Nat.reduceMul, Nat.reduceBEq, Int.reduceToNat, cv3_116, cv116_3, es38, ld47, ln38]
      refine ⟨j - ((i + j) / 2 + 1), by omega, rfl, (i + j) / 2 + 1, j, rfl, by omega, hjl, fun a ha z hz => ?_, hhi, by simp [f0], by simp [f1], by simp [f6], by simp, by simp [f8]⟩
      by_cases ham : a = (i + j) / 2
      · subst ham; rw [hy] at hz; cases hz; exact hlt
      · exact Nat.lt_trans (mono a _ z y (by omega) hz hy) hlt
    · simp only [decide_eq_false_iff_not] at hlt
      simp -dsimp (maxSteps := 1000000) (disch := first | omega | (simp only [new_n, put_n]; omega) | decide +kernel | (repeat first | rw [new_n] | rw [put_n])) only [wpS, wpT, Nat.reduceEqDiff, reduceIte, Nat.reduceLT, Nat.reduceLeDiff, Nat.reduceAdd, Nat.reduceMul, Nat.reduceBEq, Int.reduceToNat, cv3_116, cv116_3, es38, ld47, ln38]
      refine ⟨(i + j) / 2 - i, by omega, rfl, i, (i + j) / 2, rfl, by omega, by omega, hlo, fun a ha z hz => ?_, by simp [f0], by simp [f1], by simp [f6], by simp [f7], by simp⟩
      by_cases ham : a = (i + j) / 2
      · subst ham; rw [hy] at hz; cases hz; omega
      · have := mono _ a y z (by omega) hy hz; omega
  · obtain rfl : i = j := by omega
    by_cases hil : i < l.length
    · obtain ⟨y, hy⟩ : ∃ y, l[i]? = some y := ⟨l[i]'(by omega), List.getElem?_eq_getElem (by omega)⟩
      have i1 := hv.idx (P := Proofs.Tryd.prog) es38 (k := .i64) (j := i) (by omega)
      have l1 := hv.ld (P := Proofs.Tryd.prog) (t := 47) (c := i) (by simp; omega) ag47
      rw [Nat.mul_one] at i1
      rw [List.getElem?_map, hy] at l1
      simp only [Option.map_some] at l1
      by_cases hyx : y = x
      · subst hyx
        have e1 : ((y : Int) == (y : Int)) = true := by simp
        simp -dsimp (maxSteps := 1000000) (disch := first | omega | (simp only [new_n, put_n]; omega) | decide +kernel | (repeat first | rw [new_n] | rw [put_n])) only [wpS, wpT, Nat.reduceEqDiff, reduceIte, Nat.reduceLT, Nat.reduceLeDiff, Nat.reduceAdd, Nat.reduceMul, Nat.reduceBEq, Int.reduceToNat, cv3_116, cv116_3, es38, ld47, ln38, f0, f1, f6, f7, f8, i1, l1, e1]
        refine ⟨i, ?_⟩
        rw [decide_eq_true (List.mem_of_getElem? hy)]
      · have e1 : ((y : Int) == (x : Int)) = false := by simp; omega
        simp -dsimp (maxSteps := 1000000) (disch := first | omega | (simp only [new_n, put_n]; omega) | decide +kernel | (repeat first | rw [new_n] | rw [put_n])) only [wpS, wpT, Nat.reduceEqDiff, reduceIte, Nat.reduceLT, Nat.reduceLeDiff, Nat.reduceAdd, Nat.reduceMul, Nat.reduceBEq, Int.reduceToNat, cv3_116, cv116_3, es38, ld47, ln38, f0, f1, f6, f7, f8, i1, l1, e1]
        refine call (sisNaN_u _) ?_
        rintro _ _ ⟨rfl, rfl⟩
        simp -dsimp (maxSteps := 1000000) (disch := first | omega | (simp only [new_n, put_n]; omega) | decide +kernel | (repeat first | rw [new_n] | rw [put_n])) only [wpS, wpT, Nat.reduceEqDiff, reduceIte, Nat.reduceLT, Nat.reduceLeDiff, Nat.reduceAdd, Nat.reduceMul, Nat.reduceBEq, Int.reduceToNat, cv3_116, cv116_3, es38, ld47, ln38]
        refine ⟨i, ?_⟩
        rw [decide_eq_false]
        intro hx
        obtain ⟨a, ha⟩ := List.getElem?_of_mem hx
        by_cases hai : a < i
        · have := hlo a hai x ha; omega
        · by_cases hai2 : a = i
          · subst hai2; rw [hy] at ha; cases ha; exact hyx rfl
          · have h1 := hhi i (Nat.le_refl _) y hy
            obtain ⟨ha1, ha2⟩ := List.getElem?_eq_some_iff.1 ha
            obtain ⟨hb1, hb2⟩ := List.getElem?_eq_some_iff.1 hy
            have := (List.pairwise_iff_getElem.1 hl) i a hb1 ha1 (by omega)
            omega
    · simp -dsimp (maxSteps := 1000000) (disch := first | omega | (simp only [new_n, put_n]; omega) | decide +kernel | (repeat first | rw [new_n] | rw [put_n])) only [wpS, wpT, Nat.reduceEqDiff, reduceIte, Nat.reduceLT, Nat.reduceLeDiff, Nat.reduceAdd, Nat.reduceMul, Nat.reduceBEq, Int.reduceToNat, cv3_116, cv116_3, es38, ld47, ln38, f0, f1, f6, f7, f8]
      refine ⟨i, ?_⟩
      rw [decide_eq_false]
      intro hx
      obtain ⟨a, ha⟩ := List.getElem?_of_mem hx
      have := hlo a (by have := (List.getElem?_eq_some_iff.1 ha).1; omega) x ha
      omega
theorem rises_dist (F : Nat → Bool) (k : Nat) : Rises (distL F k) := List.Pairwise.filter _ (List.pairwise_lt_range)
theorem mem_dist (F : Nat → Bool) (k s : Nat) : s ∈ distL F k ↔ s < k ∧ F s = true := by simp [distL, List.mem_filter]
end Go.Id

/-! Counting plans: the districts of a given graph, computed. -/
namespace Go.Id
open Go

def fitD (n : Nat) (E : List (Nat × Nat)) (ws : List Int) (lo hi : Int) (s : Nat) : Option Bool :=
  (connC (adjOf E) n s).map fun b => decide (0 < s) && (decide (lo ≤ weightTo ws s ws.length) && (decide (weightTo ws s ws.length ≤ hi) && b))
theorem fitD_fits {n : Nat} {E : List (Nat × Nat)} {ws : List Int} {lo hi : Int} {s : Nat} (hs : s < 2 ^ n) {b : Bool} (h : fitD n E ws lo hi s = some b) : fitsB E ws lo hi s = b := by
  unfold fitD at h
  rw [Option.map_eq_some_iff] at h
  obtain ⟨c, h1, h2⟩ := h
  have hc := connC_conn hs h1
  rw [← h2, Bool.eq_iff_iff]
  unfold fitsB
  simp only [decide_eq_true_eq, Bool.and_eq_true]
  rw [hc]
/-- The districts are those of a table. -/
def tabOK (n : Nat) (E : List (Nat × Nat)) (ws : List Int) (lo hi : Int) (T : Nat) : Bool := (List.range (2 ^ n)).all fun s => fitD n E ws lo hi s == some (T.testBit s)
theorem tab {n : Nat} {E : List (Nat × Nat)} {ws : List Int} {lo hi : Int} {T : Nat} (h : tabOK n E ws lo hi T = true) : ∀ s, s < 2 ^ n → fitsB E ws lo hi s = T.testBit s := by
  intro s hs
  have := List.all_eq_true.1 h s (by simpa using hs)
  exact fitD_fits hs (by simpa using this)
theorem totalP_tab {n : Nat} {E : List (Nat × Nat)} {ws : List Int} {lo hi : Int} {k T : Nat} (h : tabOK n E ws lo hi T = true) : totalP n E ws lo hi k = after (fun s => T.testBit s) [] (2 ^ n - 1) k := by
  have : 0 < 2 ^ n := Nat.pow_pos (by omega)
  exact after_congr (tab h) [] _ k (fun c hc => by cases hc) (by omega)
theorem plan_tab {n : Nat} {E : List (Nat × Nat)} {ws : List Int} {lo hi : Int} {k T : Nat} (h : tabOK n E ws lo hi T = true) (i : Nat) : planAt (fitsB E ws lo hi) n k n 0 [] i = planAt (fun s => T.testBit s) n k n 0 [] i :=
  planAt_congr (tab h) k n 0 [] i (by omega) fun c hc => by cases hc
theorem plansP_tab {n : Nat} {E : List (Nat × Nat)} {ws : List Int} {lo hi : Int} {k T : Nat} (h : tabOK n E ws lo hi T = true) : plansP n E ws lo hi k = (List.range (after (fun s => T.testBit s) [] (2 ^ n - 1) k)).map fun i => planAt (fun s => T.testBit s) n k n 0 [] i := by
  unfold plansP
  rw [totalP_tab h]
  exact List.map_congr_left fun i _ => plan_tab h i
theorem distL_tab {n : Nat} {E : List (Nat × Nat)} {ws : List Int} {lo hi : Int} {T : Nat} (h : tabOK n E ws lo hi T = true) : distL (fitsB E ws lo hi) (2 ^ n) = distL (fun s => T.testBit s) (2 ^ n) :=
  List.filter_congr fun s hs => tab h s (by simpa using hs)
theorem idxGo_congr {F G : Nat → Bool} {n : Nat} (hFG : ∀ s, s < 2 ^ n → F s = G s) (k : Nat) : ∀ (l : List Int) (node : Nat) (cs : List Nat) (b : Nat), node + l.length ≤ n → (∀ c ∈ cs, c < 2 ^ n) → idxGo F n k node cs b l = idxGo G n k node cs b l
  | [], _, _, _, _, _ => rfl
  | c :: l, node, cs, b, hl, hc => by
    simp only [List.length_cons] at hl
    rw [idxGo, idxGo]
    split
    · rw [sumTo_congr fun x _ => after_congr hFG _ _ _ (lab_mem (by omega) hc) (above_lt n node)]
      exact idxGo_congr hFG k l _ _ _ (by omega) (lab_mem (by omega) hc)
    · rfl
theorem idxGo_mem {F : Nat → Bool} {n k : Nat} : ∀ (l : List Int) (node : Nat) (cs : List Nat) (b : Nat) {b2 : Nat} {cs2 : List Nat}, node + l.length ≤ n → (∀ c ∈ cs, c < 2 ^ n) → idxGo F n k node cs b l = some (b2, cs2) → ∀ c ∈ cs2, c < 2 ^ n
  | [], _, _, _, _, _, _, hc, h => by
    rw [idxGo] at h; cases h; exact hc
  | c :: l, node, cs, b, b2, cs2, hl, hc, h => by
    simp only [List.length_cons] at hl
    rw [idxGo] at h
    split at h
    · exact idxGo_mem l _ _ _ (by omega) (lab_mem (by omega) hc) h
    · cases h
theorem idxV_tab {n : Nat} {E : List (Nat × Nat)} {ws : List Int} {lo hi : Int} {k T : Nat} (h : tabOK n E ws lo hi T = true) (p : List Int) : idxV (fitsB E ws lo hi) n k p = idxV (fun s => T.testBit s) n k p := by
  unfold idxV
  split
  · rename_i hp
    rw [idxGo_congr (tab h) k p 0 [] 0 (by omega) fun c hc => by cases hc]
    cases hg : idxGo (fun s => T.testBit s) n k 0 [] 0 p with
    | none => rfl
    | some x =>
      obtain ⟨b, cs⟩ := x
      have hm := idxGo_mem p 0 [] 0 (by omega) (fun c hc => by cases hc) hg
      simp only
      rw [after_congr (tab h) cs 0 k hm (Nat.pow_pos (by omega))]
  · rfl

/-! ### The examples -/
abbrev pathE : List (Nat × Nat) := [(0, 1), (1, 2), (2, 3)]
abbrev cycE : List (Nat × Nat) := [(0, 1), (0, 3), (1, 2), (2, 3)]
abbrev one4 : List Int := [1, 1, 1, 1]
theorem path22 : tabOK 4 pathE one4 2 2 4168 = true := by decide +kernel
theorem path13 : tabOK 4 pathE one4 1 3 20958 = true := by decide +kernel
theorem cyc13 : tabOK 4 cycE one4 1 3 31710 = true := by decide +kernel
theorem cyc22 : tabOK 4 cycE one4 2 2 4680 = true := by decide +kernel
theorem dist_path22 : distL (fitsB pathE one4 2 2) (2 ^ 4) = [3, 6, 12] := by rw [distL_tab path22]; decide +kernel
theorem total_cyc13 : totalP 4 cycE one4 1 3 2 = 6 := by rw [totalP_tab cyc13]; decide +kernel
theorem plan_cyc13 : planAt (fitsB cycE one4 1 3) 4 2 4 0 [] 0 = [0, 0, 0, 1] := by rw [plan_tab cyc13]; decide +kernel
theorem total_path22 : totalP 4 pathE one4 2 2 2 = 1 := by rw [totalP_tab path22]; decide +kernel
theorem plans_path13 : plansP 4 pathE one4 1 3 2 = [[0, 0, 0, 1], [0, 0, 1, 1], [0, 1, 1, 1]] := by rw [plansP_tab path13]; decide +kernel
theorem plans_cyc22 : plansP 4 cycE one4 2 2 2 = [[0, 0, 1, 1], [0, 1, 1, 0]] := by rw [plansP_tab cyc22]; decide +kernel
theorem total_path13 : totalP 4 pathE one4 1 3 2 = 3 := by rw [totalP_tab path13]; decide +kernel
theorem total_cyc22 : totalP 4 cycE one4 2 2 2 = 2 := by rw [totalP_tab cyc22]; decide +kernel
theorem idxV_of {F : Nat → Bool} {n k : Nat} {p : List Int} {b : Nat} {cs : List Nat} (hp : p.length = n) (h : idxGo F n k 0 [] 0 p = some (b, cs)) (h1 : after F cs 0 k = 1) : idxV F n k p = .tuple #[wideV b, KI 0] := by
  rw [idxV, if_pos hp, h]; simp [h1]
theorem idxV_no {F : Nat → Bool} {n k : Nat} {p : List Int} (h : idxGo F n k 0 [] 0 p = none) : idxV F n k p = .tuple #[wdV 0, KI 2] := by
  rw [idxV]; split
  · rw [h]
  · rfl
theorem idxV_bad {F : Nat → Bool} {n k : Nat} {p : List Int} {b : Nat} {cs : List Nat} (h : idxGo F n k 0 [] 0 p = some (b, cs)) (h1 : after F cs 0 k ≠ 1) : idxV F n k p = .tuple #[wdV 0, KI 2] := by
  rw [idxV]; split
  · rw [h]; simp [h1]
  · rfl
theorem idx_cyc13 : idxV (fitsB cycE one4 1 3) 4 2 [0, 1, 1, 0] = .tuple #[wideV 4, KI 0] := by
  rw [idxV_tab cyc13]
  exact idxV_of (b := 4) (cs := [9, 6]) rfl (by decide +kernel) (by decide +kernel)
theorem idx_path13 : idxV (fitsB pathE one4 1 3) 4 2 [1, 1, 0, 0] = .tuple #[wdV 0, KI 2] := by
  rw [idxV_tab path13]
  exact idxV_no (by decide +kernel)
theorem ok_path (ws : List Int) (lo hi : Int) (k : Nat) (h1 : ws.length = 4) (h2 : ∀ w ∈ ws, 0 ≤ w ∧ w ≤ 1000000000) (h3 : 1 ≤ k ∧ k ≤ 8 ∧ 0 ≤ lo ∧ lo ≤ hi) : enErr (4 : Nat) (castE pathE) ws lo hi k = 0 := by
  have hg : graphErr (4 : Nat) (castE pathE) = 0 := by decide +kernel
  rw [enErr, if_pos hg, if_pos (by omega), if_pos ⟨by omega, h2, by omega⟩]
theorem ok_cyc (ws : List Int) (lo hi : Int) (k : Nat) (h1 : ws.length = 4) (h2 : ∀ w ∈ ws, 0 ≤ w ∧ w ≤ 1000000000) (h3 : 1 ≤ k ∧ k ≤ 8 ∧ 0 ≤ lo ∧ lo ≤ hi) : enErr (4 : Nat) (castE cycE) ws lo hi k = 0 := by
  have hg : graphErr (4 : Nat) (castE cycE) = 0 := by decide +kernel
  rw [enErr, if_pos hg, if_pos (by omega), if_pos ⟨by omega, h2, by omega⟩]
theorem one4_ok : ∀ w ∈ one4, 0 ≤ w ∧ w ≤ 1000000000 := by decide
end Go.Id

/-! Counting plans: where a set is a district by its size alone. -/
namespace Go.Id
open Go

/-- How many nodes a set has. -/
def pop : Nat → Nat → Nat
  | 0, _ => 0
  | n + 1, s => s % 2 + pop n (s / 2)
theorem pop_zero : ∀ n, pop n 0 = 0
  | 0 => rfl
  | n + 1 => by simp [pop, pop_zero n]
theorem pop_pos : ∀ {n s : Nat}, s < 2 ^ n → s ≠ 0 → 0 < pop n s
  | 0, s, h, h0 => by simp at h; omega
  | n + 1, s, h, h0 => by
    rw [pop]
    rcases Nat.mod_two_eq_zero_or_one s with h1 | h1
    · have := pop_pos (n := n) (s := s / 2) (by rw [Nat.pow_succ] at h; omega) (by omega)
      omega
    · omega
theorem pop_le : ∀ (n s : Nat), pop n s ≤ n
  | 0, _ => Nat.le_refl _
  | n + 1, s => by have := pop_le n (s / 2); rw [pop]; omega
theorem pop_clr : ∀ (n r t : Nat), t &&& r = t → pop n (nclr r t) + pop n t = pop n r
  | 0, _, _, _ => rfl
  | n + 1, r, t, h => by
    have h1 := (sub_halves t r).1 h
    have ih := pop_clr n (r / 2) (t / 2) h1.1
    rw [pop, pop, pop, nclr_div, nclr_mod]
    rcases Nat.mod_two_eq_zero_or_one r with h2 | h2 <;> rcases Nat.mod_two_eq_zero_or_one t with h3 | h3 <;> simp [h2, h3] <;> omega
theorem pop_or : ∀ (n a b : Nat), a &&& b = 0 → pop n (a ||| b) = pop n a + pop n b
  | 0, _, _, _ => rfl
  | n + 1, a, b, h => by
    have h1 := and_halves a b
    have h2 := or_halves a b
    rw [h] at h1
    have e1 : a / 2 &&& b / 2 = 0 := by omega
    have e2 : a % 2 * (b % 2) = 0 := by omega
    have e3 : (a ||| b) / 2 = a / 2 ||| b / 2 := Nat.or_div_two
    have e4 : (a ||| b) % 2 = max (a % 2) (b % 2) := by rw [← e3] at h2; omega
    rw [pop, pop, pop, e3, e4, pop_or n _ _ e1]
    rcases Nat.mod_two_eq_zero_or_one a with h3 | h3 <;> rcases Nat.mod_two_eq_zero_or_one b with h4 | h4 <;> simp [h3, h4] at e2 ⊢ <;> omega
theorem pop_two : ∀ {n a : Nat}, a < n → pop n (2 ^ a) = 1
  | 0, _, h => by omega
  | n + 1, 0, _ => by
    show 1 % 2 + pop n (1 / 2) = 1
    rw [show 1 / 2 = 0 from rfl, pop_zero]
  | n + 1, a + 1, h => by
    rw [pop, show 2 ^ (a + 1) % 2 = 0 by rw [Nat.pow_succ]; omega, show 2 ^ (a + 1) / 2 = 2 ^ a by rw [Nat.pow_succ]; omega, pop_two (n := n) (by omega)]
/-- A sum over subsets, by size. -/
def cv (G : Nat → Nat) : Nat → Nat
  | 0 => G 0
  | p + 1 => cv G p + cv (fun j => G (j + 1)) p
theorem subS_pop : ∀ (n : Nat) (G : Nat → Nat) (m : Nat), m < 2 ^ n → subS (fun t => G (pop n t)) m (2 ^ n) = cv G (pop n m)
  | 0, G, m, h => by
    obtain rfl : m = 0 := by simpa using h
    simp [subS, sumTo, pop, cv]
  | n + 1, G, m, h => by
    have h2 : m / 2 < 2 ^ n := by rw [Nat.pow_succ] at h; omega
    have e0 : ∀ t, pop (n + 1) (2 * t) = pop n t := fun t => by rw [pop, show 2 * t % 2 = 0 by omega, show 2 * t / 2 = t by omega, Nat.zero_add]
    have e1 : ∀ t, pop (n + 1) (2 * t + 1) = pop n t + 1 := fun t => by rw [pop, show (2 * t + 1) % 2 = 1 by omega, show (2 * t + 1) / 2 = t by omega, Nat.add_comm]
    rw [Nat.pow_succ, Nat.mul_comm, subS_two, pop]
    simp only [e0, e1]
    by_cases hm : m % 2 = 1
    · rw [if_pos hm, subS_add, subS_pop n G _ h2, subS_pop n (fun j => G (j + 1)) _ h2, hm, Nat.add_comm 1, cv]
    · rw [if_neg hm, subS_pop n G _ h2, show m % 2 = 0 by omega, Nat.zero_add]
def dot : List Nat → (Nat → Nat) → Nat
  | [], _ => 0
  | a :: l, G => a * G 0 + dot l fun j => G (j + 1)
def addL : Nat → List Nat → List Nat
  | p, [] => [p]
  | p, a :: l => (p + a) :: addL a l
theorem dot_addL : ∀ (l : List Nat) (p : Nat) (G : Nat → Nat), dot (addL p l) G = p * G 0 + dot l G + dot l fun j => G (j + 1)
  | [], p, G => by simp [addL, dot]
  | a :: l, p, G => by
    rw [addL, dot, dot_addL l a, dot, dot, Nat.add_mul]; omega
/-- A row of Pascal's triangle. -/
def rowC : Nat → List Nat
  | 0 => [1]
  | p + 1 => addL 0 (rowC p)
theorem cv_dot : ∀ (p : Nat) (G : Nat → Nat), cv G p = dot (rowC p) G
  | 0, G => by simp [cv, rowC, dot]
  | p + 1, G => by rw [cv, rowC, dot_addL, cv_dot p G, cv_dot p fun j => G (j + 1)]; omega
/-- The ways to divide, by sizes. -/
def wP (f : Nat → Bool) : Nat → Nat → Nat
  | 0, m => if m = 0 then 1 else 0
  | _ + 1, 0 => 0
  | k + 1, m + 1 => dot (rowC m) fun j => if f (j + 1) = true then wP f k (m - j) else 0
theorem wP_succ (f : Nat → Bool) (k m : Nat) : wP f (k + 1) (m + 1) = dot (rowC m) fun j => if f (j + 1) = true then wP f k (m - j) else 0 := rfl
theorem sub_disj {t r c : Nat} (h : t &&& r = t) (hd : c &&& r = 0) : c &&& t = 0 := by
  rw [← h, Nat.and_comm t, ← Nat.and_assoc, hd, Nat.zero_and]
theorem ways_pop {F : Nat → Bool} {f : Nat → Bool} {n : Nat} (hn : n ≤ 64) (hF : ∀ s, s < 2 ^ n → F s = f (pop n s)) : ∀ (k s : Nat), s < 2 ^ n → ways F k s = wP f k (pop n s)
  | 0, s, h => by
    rw [ways, wP]
    by_cases h0 : s = 0
    · subst h0; rw [pop_zero]
    · have := pop_pos h h0
      rw [if_neg h0, if_neg (by omega)]
  | k + 1, s, h => by
    by_cases h0 : s = 0
    · subst h0; rw [pop_zero, ways, if_pos rfl]; rfl
    · have hp64 : 2 ^ n ≤ 2 ^ 64 := Nat.pow_le_pow_right (by omega) hn
      obtain ⟨a, ha⟩ := low_exists (u := s) (by omega)
      have hlow : lowM s = 2 ^ a := low_bit ha (by omega)
      have han : a < n := by
        refine Nat.lt_of_not_le fun hh => ?_
        have := Nat.testBit_lt_two_pow (Nat.lt_of_lt_of_le h (Nat.pow_le_pow_right (by omega) hh))
        rw [ha.1] at this; cases this
      have hlt : 2 ^ a < 2 ^ n := Nat.pow_lt_pow_right (by omega) han
      have hr : nclr s (lowM s) < 2 ^ n := nclr_lt h
      have hls : lowM s &&& s = lowM s := by rw [lowM, Nat.and_assoc, Nat.and_comm _ s, ← Nat.and_assoc, Nat.and_self]
      have hpr := pop_clr n s (lowM s) hls
      have hdis : lowM s &&& nclr s (lowM s) = 0 := by
        apply Nat.eq_of_testBit_eq
        intro j
        rw [Nat.testBit_and, testBit_nclr, Nat.zero_testBit]
        cases (lowM s).testBit j <;> simp
      have hp1 : pop n (lowM s) = 1 := by rw [hlow, pop_two han]
      obtain ⟨m, hm⟩ : ∃ m, pop n s = m + 1 := ⟨pop n s - 1, by omega⟩
      have hrm : pop n (nclr s (lowM s)) = m := by omega
      rw [ways, if_neg h0, hm, wP_succ, ← cv_dot, ← hrm, ← subS_pop n _ _ hr]
      simp only
      rw [sumFrom_all _ hr]
      refine subS_congr fun t ht1 ht => ?_
      have hpt := pop_clr n _ t ht
      have hor : t ||| lowM s < 2 ^ n := Nat.or_lt_two_pow ht1 (by rw [hlow]; exact hlt)
      rw [hF _ hor, Nat.or_comm, pop_or n _ _ (sub_disj ht hdis), hp1, Nat.add_comm 1, nclr_nclr, ways_pop hn hF k _ (nclr_lt hr), show pop n (nclr (nclr s (lowM s)) t) = pop n (nclr s (lowM s)) - pop n t by omega]
/-- The ways to complete, by sizes. -/
def aP (f : Nat → Bool) : List Nat → Nat → Nat → Nat
  | [], m, k => wP f k m
  | c :: cs, m, k => if cs.length + 1 ≤ k then dot (rowC m) (fun j => if f (c + j) = true then aP f cs (m - j) (k - 1) else 0) else 0
theorem after_pop {F : Nat → Bool} {f : Nat → Bool} {n : Nat} (hn : n ≤ 64) (hF : ∀ s, s < 2 ^ n → F s = f (pop n s)) : ∀ (cs : List Nat) (r k : Nat), r < 2 ^ n → (∀ c ∈ cs, c < 2 ^ n ∧ c &&& r = 0) → after F cs r k = aP f (cs.map (pop n)) (pop n r) k
  | [], r, k, hr, _ => ways_pop hn hF k r hr
  | c :: cs, r, k, hr, hc => by
    rw [after_cons, List.map_cons, aP, List.length_map]
    split
    · rw [← cv_dot, ← subS_pop n _ _ hr, sumFrom_all _ hr]
      refine subS_congr fun t ht1 ht => ?_
      have hcc := hc c (by simp)
      have hpt := pop_clr n _ t ht
      have hd := sub_disj ht hcc.2
      rw [hF _ (Nat.or_lt_two_pow hcc.1 ht1), pop_or n _ _ hd, after_pop hn hF cs _ _ (nclr_lt hr) fun d hd => ⟨(hc d (by simp [hd])).1, sub_disj (nclr_sub r t) (hc d (by simp [hd])).2⟩, show pop n (nclr r t) = pop n r - pop n t by omega]
    · rfl
/-- Sizes with a node more. -/
def labS (ss : List Nat) (l : Nat) : List Nat := if l = ss.length then ss ++ [1] else ss.set l (ss.getD l 0 + 1)
theorem pop_above {n node : Nat} (h : node < n) : pop n (above n node) = n - (node + 1) := by
  have key : ∀ n m : Nat, m ≤ n → pop n (2 ^ n - 2 ^ m) = n - m := by
    intro n
    induction n with
    | zero =>
      intro m hm
      obtain rfl : m = 0 := by omega
      rfl
    | succ n ih =>
      intro m hm
      rw [pop]
      have hpos : 0 < 2 ^ n := Nat.pow_pos (by omega)
      cases m with
      | zero =>
        rw [Nat.pow_zero, Nat.pow_succ, show (2 ^ n * 2 - 1) % 2 = 1 by omega, show (2 ^ n * 2 - 1) / 2 = 2 ^ n - 2 ^ 0 by rw [Nat.pow_zero]; omega, ih 0 (by omega)]; omega
      | succ m =>
        have : 2 ^ m ≤ 2 ^ n := Nat.pow_le_pow_right (by omega) (by omega)
        rw [Nat.pow_succ, Nat.pow_succ, show (2 ^ n * 2 - 2 ^ m * 2) % 2 = 0 by omega, show (2 ^ n * 2 - 2 ^ m * 2) / 2 = 2 ^ n - 2 ^ m by omega, ih m (by omega)]; omega
  exact key n (node + 1) (by omega)
theorem low_disj {n node c : Nat} (hc : c < 2 ^ (node + 1)) (h : node < n) : c &&& above n node = 0 := by
  apply Nat.eq_of_testBit_eq
  intro j
  rw [Nat.testBit_and, above, above_bit (by omega), Nat.zero_testBit]
  by_cases hj : node + 1 ≤ j
  · rw [Nat.testBit_lt_two_pow (Nat.lt_of_lt_of_le hc (Nat.pow_le_pow_right (by omega) hj))]; rfl
  · simp [hj]
theorem lab_sizes {n node : Nat} (hn : node < n) : ∀ {cs : List Nat} {l : Nat}, (∀ c ∈ cs, c < 2 ^ node) → (lab cs node l).map (pop n) = labS (cs.map (pop n)) l
  | [], l, _ => by
    unfold lab labS
    by_cases h : l = 0
    · subst h; simp [pop_two hn]
    · simp [h]
  | d :: cs, 0, hc => by
    have hd := hc d (by simp)
    have hdis : d &&& 2 ^ node = 0 := by
      apply Nat.eq_of_testBit_eq
      intro j
      rw [Nat.testBit_and, bit_two_pow, Nat.zero_testBit]
      by_cases hj : node = j
      · subst hj; rw [Nat.testBit_lt_two_pow hd]; rfl
      · simp [hj]
    rw [lab_zero, List.map_cons, pop_or n _ _ hdis, pop_two hn]
    rfl
  | d :: cs, l + 1, hc => by
    rw [lab_succ, List.map_cons, lab_sizes hn (cs := cs) fun c h => hc c (by simp [h])]
    unfold labS
    simp only [List.map_cons, List.length_cons]
    by_cases h : l = (List.map (pop n) cs).length
    · simp [h]
    · rw [if_neg h, if_neg (by omega)]; rfl
theorem lab_low {node : Nat} {cs : List Nat} {l : Nat} (hc : ∀ c ∈ cs, c < 2 ^ node) : ∀ c ∈ lab cs node l, c < 2 ^ (node + 1) :=
  lab_mem (n := node + 1) (by omega) fun c h => Nat.lt_of_lt_of_le (hc c h) (Nat.pow_le_pow_right (by omega) (by omega))
/-- The plan of a number, by sizes. -/
def planP (f : Nat → Bool) (n k : Nat) : Nat → Nat → List Nat → Nat → List Nat
  | 0, _, _, _ => []
  | m + 1, node, ss, i => match findLab (fun l => aP f (labS ss l) (n - (node + 1)) k) (ss.length + 1) 0 i with
    | some (l, j) => l :: planP f n k m (node + 1) (labS ss l) j
    | none => []
theorem after_lab {F : Nat → Bool} {f : Nat → Bool} {n : Nat} (hn : n ≤ 64) (hF : ∀ s, s < 2 ^ n → F s = f (pop n s)) {node : Nat} (hnode : node < n) {cs : List Nat} (hc : ∀ c ∈ cs, c < 2 ^ node) (l k : Nat) :
    after F (lab cs node l) (above n node) k = aP f (labS (cs.map (pop n)) l) (n - (node + 1)) k := by
  rw [after_pop hn hF _ _ _ (above_lt n node) fun c h => ⟨Nat.lt_of_lt_of_le (lab_low hc c h) (Nat.pow_le_pow_right (by omega) (by omega)), low_disj (lab_low hc c h) hnode⟩, lab_sizes hnode hc, pop_above hnode]
theorem plan_pop {F : Nat → Bool} {f : Nat → Bool} {n : Nat} (hn : n ≤ 64) (hF : ∀ s, s < 2 ^ n → F s = f (pop n s)) (k : Nat) : ∀ (m node : Nat) (cs : List Nat) (i : Nat), node + m ≤ n → (∀ c ∈ cs, c < 2 ^ node) → planAt F n k m node cs i = planP f n k m node (cs.map (pop n)) i
  | 0, _, _, _, _, _ => rfl
  | m + 1, node, cs, i, hm, hc => by
    rw [planAt, planP, List.length_map, findLab_congr (h := fun l => aP f (labS (cs.map (pop n)) l) (n - (node + 1)) k) _ _ _ fun l => after_lab hn hF (by omega) hc l k]
    cases hf : findLab (fun l => aP f (labS (cs.map (pop n)) l) (n - (node + 1)) k) (cs.length + 1) 0 i with
    | none => rfl
    | some p =>
      simp only
      rw [plan_pop hn hF k m (node + 1) _ _ (by omega) (lab_low hc), lab_sizes (by omega) hc]
def idxP (f : Nat → Bool) (n k : Nat) : Nat → List Nat → Nat → List Int → Option (Nat × List Nat)
  | _, ss, b, [] => some (b, ss)
  | node, ss, b, c :: l => if 0 ≤ c ∧ c ≤ ss.length then idxP f n k (node + 1) (labS ss c.toNat) (b + sumTo (fun l => aP f (labS ss l) (n - (node + 1)) k) c.toNat) l else none
theorem idx_pop {F : Nat → Bool} {f : Nat → Bool} {n : Nat} (hn : n ≤ 64) (hF : ∀ s, s < 2 ^ n → F s = f (pop n s)) (k : Nat) : ∀ (l : List Int) (node : Nat) (cs : List Nat) (b : Nat) (B : Nat) (S : List Nat), node + l.length ≤ n → (∀ c ∈ cs, c < 2 ^ node) → idxP f n k node (cs.map (pop n)) b l = some (B, S) →
    ∃ cs', idxGo F n k node cs b l = some (B, cs') ∧ cs'.map (pop n) = S ∧ ∀ c ∈ cs', c < 2 ^ (node + l.length)
  | [], node, cs, b, B, S, _, hc, h => by
    rw [idxP] at h; cases h
    exact ⟨cs, rfl, rfl, hc⟩
  | c :: l, node, cs, b, B, S, hl, hc, h => by
    simp only [List.length_cons] at hl
    rw [idxP, List.length_map] at h
    split at h
    · rename_i h0
      rw [← lab_sizes (by omega) hc] at h
      obtain ⟨cs', h1, h2, h3⟩ := idx_pop hn hF k l (node + 1) _ _ B S (by omega) (lab_low hc) h
      refine ⟨cs', ?_, h2, fun d hd => by have := h3 d hd; rwa [List.length_cons, show node + (l.length + 1) = node + 1 + l.length by omega]⟩
      rw [idxGo, if_pos h0, sumTo_congr fun x _ => after_lab hn hF (by omega) hc x k]
      exact h1
    · cases h
end Go.Id

/-! Counting plans of a part: sets of the part's nodes, numbered anew. -/
namespace Go.Id
open Go

/-- The set of the nodes of R whose places are in t. -/
def dep : Nat → Nat → Nat → Nat
  | 0, _, _ => 0
  | n + 1, R, t => if R % 2 = 1 then 2 * dep n (R / 2) (t / 2) + t % 2 else 2 * dep n (R / 2) t
theorem dep_odd {n R t : Nat} (h : R % 2 = 1) : dep (n + 1) R t = 2 * dep n (R / 2) (t / 2) + t % 2 := by rw [dep, if_pos h]
theorem dep_even {n R t : Nat} (h : ¬ R % 2 = 1) : dep (n + 1) R t = 2 * dep n (R / 2) t := by rw [dep, if_neg h]
theorem dep_zero : ∀ n R : Nat, dep n R 0 = 0
  | 0, _ => rfl
  | n + 1, R => by
    by_cases h : R % 2 = 1
    · rw [dep_odd h, Nat.zero_div, dep_zero n]
    · rw [dep_even h, dep_zero n]
theorem dep_lt : ∀ n R t : Nat, dep n R t < 2 ^ n
  | 0, _, _ => by simp [dep]
  | n + 1, R, t => by
    rw [Nat.pow_succ]
    by_cases h : R % 2 = 1
    · rw [dep_odd h]; have := dep_lt n (R / 2) (t / 2); omega
    · rw [dep_even h]; have := dep_lt n (R / 2) t; omega
theorem pop_odd {n R : Nat} (h : R % 2 = 1) : pop (n + 1) R = pop n (R / 2) + 1 := by rw [pop, h, Nat.add_comm]
theorem pop_even {n R : Nat} (h : ¬ R % 2 = 1) : pop (n + 1) R = pop n (R / 2) := by rw [pop]; omega
theorem dep_pos : ∀ {n R t : Nat}, t < 2 ^ pop n R → t ≠ 0 → dep n R t ≠ 0
  | 0, R, t, h, h0 => by simp [pop] at h; omega
  | n + 1, R, t, h, h0 => by
    by_cases hR : R % 2 = 1
    · rw [pop_odd hR, Nat.pow_succ] at h
      rw [dep_odd hR]
      by_cases h1 : t / 2 = 0
      · omega
      · have := dep_pos (n := n) (R := R / 2) (t := t / 2) (by omega) h1; omega
    · rw [pop_even hR] at h
      rw [dep_even hR]
      have := dep_pos (n := n) (R := R / 2) (t := t) h h0; omega
theorem dep_nclr : ∀ (n R t u : Nat), nclr (dep n R t) (dep n R u) = dep n R (nclr t u)
  | 0, _, _, _ => by rw [dep, dep, dep]; rfl
  | n + 1, R, t, u => by
    by_cases hR : R % 2 = 1
    · rw [dep_odd hR, dep_odd hR, dep_odd hR, nclr_div t u, ← dep_nclr n (R / 2) (t / 2) (u / 2)]
      have h1 := nclr_div (2 * dep n (R / 2) (t / 2) + t % 2) (2 * dep n (R / 2) (u / 2) + u % 2)
      have h2 := nclr_mod (2 * dep n (R / 2) (t / 2) + t % 2) (2 * dep n (R / 2) (u / 2) + u % 2)
      have h3 := nclr_mod t u
      rw [show (2 * dep n (R / 2) (t / 2) + t % 2) / 2 = dep n (R / 2) (t / 2) by omega, show (2 * dep n (R / 2) (u / 2) + u % 2) / 2 = dep n (R / 2) (u / 2) by omega] at h1
      rw [show (2 * dep n (R / 2) (t / 2) + t % 2) % 2 = t % 2 by omega, show (2 * dep n (R / 2) (u / 2) + u % 2) % 2 = u % 2 by omega] at h2
      omega
    · rw [dep_even hR, dep_even hR, dep_even hR, ← dep_nclr n (R / 2) t u]
      have h1 := nclr_div (2 * dep n (R / 2) t) (2 * dep n (R / 2) u)
      have h2 := nclr_mod (2 * dep n (R / 2) t) (2 * dep n (R / 2) u)
      rw [show (2 * dep n (R / 2) t) / 2 = dep n (R / 2) t by omega, show (2 * dep n (R / 2) u) / 2 = dep n (R / 2) u by omega] at h1
      rw [if_neg (by omega)] at h2
      omega
theorem dep_or : ∀ (n R t u : Nat), dep n R t ||| dep n R u = dep n R (t ||| u)
  | 0, _, _, _ => by rw [dep, dep, dep]; rfl
  | n + 1, R, t, u => by
    have ha := or_halves
    by_cases hR : R % 2 = 1
    · rw [dep_odd hR, dep_odd hR, dep_odd hR]
      have h1 := ha t u
      have h2 := ha (2 * dep n (R / 2) (t / 2) + t % 2) (2 * dep n (R / 2) (u / 2) + u % 2)
      rw [show (2 * dep n (R / 2) (t / 2) + t % 2) / 2 = dep n (R / 2) (t / 2) by omega, show (2 * dep n (R / 2) (u / 2) + u % 2) / 2 = dep n (R / 2) (u / 2) by omega, dep_or n (R / 2) (t / 2) (u / 2)] at h2
      rw [show (2 * dep n (R / 2) (t / 2) + t % 2) % 2 = t % 2 by omega, show (2 * dep n (R / 2) (u / 2) + u % 2) % 2 = u % 2 by omega] at h2
      have h3 : (t ||| u) / 2 = (t / 2 ||| u / 2) := by omega
      have h4 : (t ||| u) % 2 = max (t % 2) (u % 2) := by omega
      rw [h2, h3, h4]
    · rw [dep_even hR, dep_even hR, dep_even hR, or_two, dep_or n]
theorem subS_dep : ∀ (n : Nat) (f : Nat → Nat) (R t : Nat), t < 2 ^ pop n R → subS f (dep n R t) (2 ^ n) = subS (fun u => f (dep n R u)) t (2 ^ pop n R)
  | 0, f, R, t, h => by
    have h0 : t = 0 := by simp [pop] at h; omega
    subst h0
    simp [dep, pop, subS, sumTo]
  | n + 1, f, R, t, h => by
    by_cases hR : R % 2 = 1
    · rw [pop_odd hR, Nat.pow_succ] at h
      rw [pop_odd hR, Nat.pow_succ, Nat.pow_succ, Nat.mul_comm _ 2, Nat.mul_comm _ 2, subS_two, subS_two, dep_odd hR,
        show (2 * dep n (R / 2) (t / 2) + t % 2) % 2 = t % 2 by omega, show (2 * dep n (R / 2) (t / 2) + t % 2) / 2 = dep n (R / 2) (t / 2) by omega,
        subS_dep n _ (R / 2) (t / 2) (by omega), subS_dep n _ (R / 2) (t / 2) (by omega)]
      have e1 : ∀ u, dep (n + 1) R (2 * u) = 2 * dep n (R / 2) u := fun u => by rw [dep_odd hR, show 2 * u / 2 = u by omega]; omega
      have e2 : ∀ u, dep (n + 1) R (2 * u + 1) = 2 * dep n (R / 2) u + 1 := fun u => by rw [dep_odd hR, show (2 * u + 1) / 2 = u by omega]; omega
      simp only [e1, e2]
    · rw [pop_even hR] at h
      rw [pop_even hR, Nat.pow_succ, Nat.mul_comm _ 2, subS_two, dep_even hR, if_neg (by omega), show 2 * dep n (R / 2) t / 2 = dep n (R / 2) t by omega, subS_dep n _ (R / 2) t h]
      simp only [dep_even hR]
theorem low_two {d k : Nat} (h : Low d k) : Low (2 * d) (k + 1) := by
  refine ⟨by rw [Nat.testBit_succ, show 2 * d / 2 = d by omega]; exact h.1, fun j hj => ?_⟩
  cases j with
  | zero => rw [Nat.testBit_zero]; simp
  | succ j => rw [Nat.testBit_succ, show 2 * d / 2 = d by omega]; exact h.2 j (by omega)
theorem dep_low : ∀ {n R t k : Nat}, t < 2 ^ pop n R → Low t k → ∃ k', Low (dep n R t) k' ∧ dep n R (2 ^ k) = 2 ^ k'
  | 0, R, t, k, h, hl => by
    have h0 : t = 0 := by simp [pop] at h; omega
    subst h0
    have := hl.1; simp at this
  | n + 1, R, t, k, h, hl => by
    by_cases hR : R % 2 = 1
    · rw [pop_odd hR, Nat.pow_succ] at h
      cases k with
      | zero =>
        have h1 := hl.1
        rw [Nat.testBit_zero, decide_eq_true_eq] at h1
        refine ⟨0, ⟨?_, fun j hj => by omega⟩, ?_⟩
        · rw [dep_odd hR, Nat.testBit_zero, decide_eq_true_eq]; omega
        · rw [dep_odd hR, show (2 ^ 0 : Nat) / 2 = 0 from rfl, dep_zero]
      | succ k =>
        have h1 := hl.2 0 (by omega)
        rw [Nat.testBit_zero, decide_eq_false_iff_not] at h1
        have hl2 : Low (t / 2) k := ⟨by rw [← Nat.testBit_succ]; exact hl.1, fun j hj => by rw [← Nat.testBit_succ]; exact hl.2 (j + 1) (by omega)⟩
        obtain ⟨k', hk1, hk2⟩ := dep_low (n := n) (R := R / 2) (by omega) hl2
        refine ⟨k' + 1, ?_, ?_⟩
        · rw [dep_odd hR, show t % 2 = 0 by omega]; exact low_two hk1
        · rw [dep_odd hR, Nat.pow_succ, Nat.mul_div_cancel _ (by omega), hk2, Nat.mul_mod_left, Nat.pow_succ, Nat.add_zero, Nat.mul_comm]
    · rw [pop_even hR] at h
      obtain ⟨k', hk1, hk2⟩ := dep_low (n := n) (R := R / 2) h hl
      refine ⟨k' + 1, ?_, ?_⟩
      · rw [dep_even hR]; exact low_two hk1
      · rw [dep_even hR, hk2, Nat.pow_succ, Nat.mul_comm]
theorem lowM_dep {n R t : Nat} (hn : n ≤ 64) (h : t < 2 ^ pop n R) (h0 : t ≠ 0) : lowM (dep n R t) = dep n R (lowM t) := by
  have hp64 : 2 ^ n ≤ 2 ^ 64 := Nat.pow_le_pow_right (by omega) hn
  have hq64 : 2 ^ pop n R ≤ 2 ^ 64 := Nat.pow_le_pow_right (by omega) (Nat.le_trans (pop_le n R) hn)
  have hd := dep_lt n R t
  obtain ⟨k, hk⟩ := low_exists (u := t) (by omega)
  obtain ⟨k', h1, h2⟩ := dep_low h hk
  rw [show lowM t = 2 ^ k from low_bit hk (by omega), show lowM (dep n R t) = 2 ^ k' from low_bit h1 (by omega), h2]
/-- The ways to divide a part are the ways to divide it numbered anew. -/
theorem ways_dep (F : Nat → Bool) {n R : Nat} (hn : n ≤ 64) : ∀ (k t : Nat), t < 2 ^ pop n R → ways F k (dep n R t) = ways (fun u => F (dep n R u)) k t
  | 0, t, h => by
    rw [ways, ways]
    by_cases h0 : t = 0
    · subst h0; rw [dep_zero]
    · rw [if_neg (dep_pos h h0), if_neg h0]
  | k + 1, t, h => by
    by_cases h0 : t = 0
    · subst h0; rw [dep_zero, ways, ways, if_pos rfl, if_pos rfl]
    · rw [ways, ways, if_neg (dep_pos h h0), if_neg h0]
      simp only
      rw [lowM_dep hn h h0, dep_nclr, sumFrom_all _ (dep_lt n R _), sumFrom_all _ (nclr_lt h), subS_dep n _ R _ (nclr_lt h)]
      refine subS_congr fun u hu _ => ?_
      rw [dep_or, dep_nclr, dep_nclr, ways_dep F hn k _ (nclr_lt (nclr_lt h))]
theorem nclr_none (a : Nat) : nclr a 0 = a := Nat.eq_of_testBit_eq fun j => by rw [testBit_nclr]; simp
/-- The ways to divide all nodes, by the district of node 0. -/
theorem parts_sum (F : Nat → Bool) {n : Nat} (hn0 : 0 < n) (hn : n ≤ 64) (j : Nat) : ways F (j + 1) (2 ^ n - 1) = sumTo (fun s => if F s = true then (if s % 2 = 1 then ways F j (nclr (2 ^ n - 1) s) else 0) else 0) (2 ^ n) := by
  obtain ⟨m, rfl⟩ : ∃ m, n = m + 1 := ⟨n - 1, by omega⟩
  have hp := Nat.pow_succ 2 m
  have hpos : 0 < 2 ^ m := Nat.pow_pos (by omega)
  have hp64 : 2 ^ (m + 1) ≤ 2 ^ 64 := Nat.pow_le_pow_right (by omega) hn
  have hlow : lowM (2 ^ (m + 1) - 1) = 1 := by
    have h1 : Low (2 ^ (m + 1) - 1) 0 := ⟨by rw [Nat.testBit_zero, decide_eq_true_eq]; omega, fun j hj => by omega⟩
    exact low_bit h1 (by omega)
  rw [ways, if_neg (by omega)]
  simp only
  rw [hlow]
  have hq : nclr (2 ^ (m + 1) - 1) 1 = 2 * (2 ^ m - 1) := by
    have h1 := nclr_div (2 ^ (m + 1) - 1) 1
    have h2 := nclr_mod (2 ^ (m + 1) - 1) 1
    rw [if_neg (by omega)] at h2
    rw [show (2 ^ (m + 1) - 1) / 2 = 2 ^ m - 1 by omega, show 1 / 2 = 0 from rfl, nclr_none] at h1
    omega
  rw [hq, sumFrom_all _ (show 2 * (2 ^ m - 1) < 2 ^ (m + 1) by omega), hp, Nat.mul_comm (2 ^ m) 2, subS_two, if_neg (by omega), show 2 * (2 ^ m - 1) / 2 = 2 ^ m - 1 by omega, sumTo_two]
  refine sumTo_congr fun t ht => ?_
  have ht2 : t &&& (2 ^ m - 1) = t := by rw [Nat.and_two_pow_sub_one_eq_mod, Nat.mod_eq_of_lt ht]
  rw [if_pos ht2]
  show (if F (2 * t ||| 1) = true then ways F j (nclr (nclr (2 * 2 ^ m - 1) (2 * t)) 1) else 0) = _
  rw [or_one, if_neg (show ¬ 2 * t % 2 = 1 by omega), if_pos (show (2 * t + 1) % 2 = 1 by omega), ite_self, Nat.zero_add]
  have e : nclr (nclr (2 * 2 ^ m - 1) (2 * t)) 1 = nclr (2 * 2 ^ m - 1) (2 * t + 1) := by
    have a1 := nclr_div (2 * 2 ^ m - 1) (2 * t)
    have b1 := nclr_div (nclr (2 * 2 ^ m - 1) (2 * t)) 1
    have b2 := nclr_mod (nclr (2 * 2 ^ m - 1) (2 * t)) 1
    have c1 := nclr_div (2 * 2 ^ m - 1) (2 * t + 1)
    have c2 := nclr_mod (2 * 2 ^ m - 1) (2 * t + 1)
    rw [if_neg (by omega)] at b2 c2
    rw [show (2 * 2 ^ m - 1) / 2 = 2 ^ m - 1 by omega, show 2 * t / 2 = t by omega] at a1
    rw [show 1 / 2 = 0 from rfl, nclr_none, a1] at b1
    rw [show (2 * 2 ^ m - 1) / 2 = 2 ^ m - 1 by omega, show (2 * t + 1) / 2 = t by omega] at c1
    omega
  rw [e]
theorem dist_sum (F : Nat → Bool) (g : Nat → Nat) : ∀ N, ((distL F N).map g).sum = sumTo (fun s => if F s = true then g s else 0) N
  | 0 => rfl
  | N + 1 => by
    have ih := dist_sum F g N
    rw [distL_succ, sumTo]
    by_cases h : F N = true
    · rw [if_pos h, if_pos h, List.map_append, List.sum_append, ih]; simp
    · rw [if_neg h, if_neg h, ih]; simp
end Go.Id
