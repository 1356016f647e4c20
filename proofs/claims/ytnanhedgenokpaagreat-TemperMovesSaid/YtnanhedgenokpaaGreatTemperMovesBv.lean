/-
  The statement TemperMoves, on the ideal machine. Contracts: law 34's helpers has, q, odds.
-/
import Derived.Test.YtnanhedgenokpaaGreatTemperMovesBu
import Derived.Test.YtnanhedgenokpaaGreatTemperMovesBg
import Derived.Test.YtnanhedgenokpaaGreatTemperMovesAt
import Derived.Test.YtnanhedgenokpaaGreatTemperMovesBh
import Derived.Test.YtnanhedgenokpaaGreatTemperMovesBf
set_option linter.unusedVariables false
set_option linter.unusedSimpArgs false
set_option linter.defProp false
set_option linter.deprecated false
namespace Go.Id
open Go
theorem G8 {h : IH} {e : Int} :
    WV Proofs.Tryz.prog (.func (.func 18) #[] #[]) [KI e] h fun r h' => r = .func (.func 72) #[] #[ptr (2 * h.n) 0] ∧ h' = h.new (.cells [KI e] 0 none) := by
  refine enter (nt := 4) (rs := [.tmp 2]) Proofs.Tryz.func18 rfl rfl rfl (by simp) ?_
  simp -dsimp (maxSteps := 1000000) (disch := first | omega | (simp only [al, aq]; omega) | decide +kernel | (repeat first | rw [al] | rw [aq])) only [wpS, wpT, Nat.reduceEqDiff]
theorem QN (a b : Int) (ox oy : Operand) : binop Proofs.Tryz.prog .eql 36 ox oy (.agg #[.int .u64 a]) (.agg #[.int .u64 b]) = some (.bool (a == b)) :=
  qv (by kernel_rfl) (by simp [plain, bP]) (by simp [plain, bP]) (Mj a b) ox oy
theorem DD {h : IH} {v : Value} {e : Int} {b : Nat} (hv : bI h 1 v 0 []) (hb : b < h.n) (g : h.ext.get b = some (.cells [KI e] 0 none)) :
    WV Proofs.Tryz.prog (.func (.func 72) #[] #[ptr (2 * b) 0]) [v, KI 0, chV 0, KI e] h fun r h' => Ext h h' ∧ r = .bool true := by
  have hl := hv.len (P := Proofs.Tryz.prog) cW
  have E1 : Ext h (h.new (.cells [K64 0] 0 none)) := (Ext.refl h).new _
  have g1 : (h.new (.cells [K64 0] 0 none)).ext.get h.n = some (.cells [K64 0] 0 none) := by simp (disch := first | omega | (simp only [al, aq]; omega) | (repeat first | rw [al] | rw [aq])) only [aa]
  have gb := E1.kept hb g
  refine enter (nt := 27) (rs := [.tmp 9]) Proofs.Tryz.func72 rfl rfl rfl (by simp) ?_
  simp -dsimp (maxSteps := 1000000) (disch := first | omega | (simp only [al, aq]; omega) | decide +kernel | (repeat first | rw [al] | rw [aq])) only [wpS, wpT, Nat.reduceEqDiff, Nat.reduceLeDiff, Nat.reduceAdd, eH, mh, kO, chV, ai g1, ai gb, tk1, QN, beq_self_eq_true, hl]
  exact E1
theorem I9 {h : IH} {v : Value} {n : Nat} {cs : List Value} (hs : bI h 1 v n cs) (hp : 0 < n) (hc : cs.all aG = true) (hn : n ≤ 1000000000) :
    WV Proofs.Tryz.prog (.func (.func 19) #[] #[]) [v] h fun r h' => Ext h h' ∧ ∃ j, h.n ≤ j ∧ j < h'.n ∧ r = .slice (some ⟨2 * j, 0, none⟩) n (2 * n) ∧ h'.ext.get j = some (.cells cs 1 none) := by
  obtain ⟨hz, hl, ⟨rfl, rfl⟩ | ⟨b, o, k, rfl, hh⟩⟩ := hs
  · omega
  · have hk : Ext h (h.new (.cells [] 1 none)) := (Ext.refl h).new _
    have Sn : ko (h.new (.cells [] 1 none)) 1 (.slice (some ⟨b, o, none⟩) n k) n cs := (bI.ab ⟨hz, hl, .inr ⟨b, o, k, rfl, hh⟩⟩ hk.ab).now
    refine enter (nt := 8) (rs := [.tmp 2]) Proofs.Tryz.func19 rfl rfl rfl (by simp) ?_
    simp -dsimp (maxSteps := 1000000) (disch := first | omega | (simp only [al, aq]; omega) | decide +kernel | (repeat first | rw [al] | rw [aq])) only [wpS, wpT, Nat.reduceEqDiff, Nat.reduceMul, gO, fj, CW u25, oZ pV _ Sn hp hc (by omega)]
    exact ⟨hk.new _, _, by simp, by simp, rfl, aa _ _ rfl⟩
theorem Cn {p : List Nat} {k : Nat} (hk : k + 1 < p.length) : ((fl p k).set k ((fl p k).getD (k + 1) 0)).set (k + 1) ((fl p k).getD k 0) = p := by
  have h : fl (fl p k) k = p := by
    refine List.ext_getElem? fun j => ?_
    by_cases hj : j < p.length
    · have e1 := (lh (p := fl p k) (k := k) (by rw [gG]; exact hk) j).symm
      rw [← lh hk, ← lh hk, ← lh hk] at e1
      have e2 : (fl (fl p k) k).getD j 0 = p.getD j 0 := by
        rw [e1]
        by_cases c1 : j = k + 1
        · subst c1
          rw [if_pos rfl, if_neg (by omega), if_pos rfl]
        · rw [if_neg c1]
          by_cases c2 : j = k
          · subst c2
            rw [if_pos rfl, if_pos rfl]
          · rw [if_neg c2, if_neg c1, if_neg c2]
      rw [List.getD_eq_getElem?_getD, List.getD_eq_getElem?_getD, List.getElem?_eq_getElem (by rw [gG, gG]; exact hj), List.getElem?_eq_getElem hj] at e2
      rw [List.getElem?_eq_getElem (by rw [gG, gG]; exact hj), List.getElem?_eq_getElem hj]
      exact congrArg some e2
    · rw [List.getElem?_eq_none (by rw [gG, gG]; omega), List.getElem?_eq_none (by omega)]
  exact h
noncomputable abbrev BO : Code := Proofs.Tryz.f4.body.getD .skip
noncomputable abbrev QMv : bd → Fr → IH → Prop := Nh Proofs.Tryz.prog [.tmp 4] fun r _ => r = .bool true
theorem Ij {ll : List (List (Nat × Nat))} {ws : List Nat} {s lv st : List Int} {c : Nat} (k : fL ll) (h : lv.length = 0) : yG ll ws s lv st c = ([], 0, 0, 340) := by
  unfold yG
  have : fF s lv = 340 := by
    unfold fF
    rw [if_pos (.inr (.inr (.inr (.inl (by omega)))))]
  rw [if_neg (fun x => x k), this, if_pos (by decide)]
section
variable {h hh : IH} {fr : Fr} {sz bx bc s : Nat} {vN vS vL vA vR vQ : Value} {lN lS lL lA : List Nat}
set_option maxHeartbeats 16000000 in
open Classical in
theorem EZ (hN : jF h vN lN) (hS : jF h vS lS) (hL : jF h vL lL) (hA : jF h vA lA) (cR : aG vR = true) (cQ : aG vQ = true) (hsz : sz < 256) (hs : s < 18446744073709551616) (lbx : bx < h.n) (lbc : bc < h.n) (gx : h.ext.get bx = some (.cells [B8 sz, vN, vS, vL, vA, vR, vQ] 0 none)) (gc : h.ext.get bc = some (.cells [K64 s] 0 none)) (f2 : ah fr 2 = some (ptr (2 * bx) 0)) (f3 : ah fr 3 = some (ptr (2 * bc) 0)) :
    Do (wpC Proofs.Tryz.prog 4 170 none (EK BO 2) fr h) QMv nx := by
  have Ro : List.take 2 (List.drop 0 [B8 sz, vN, vS, vL, vA, vR, vQ]) = [B8 sz, vN] := rfl
  have tk7 : List.take 7 (List.drop 0 [B8 sz, vN, vS, vL, vA, vR, vQ]) = [B8 sz, vN, vS, vL, vA, vR, vQ] := rfl
  show Do (wpC _ _ _ _ (.seq _ _) fr h) _ _
  simp -dsimp (maxSteps := 1000000) (disch := first | omega | (simp only [al, aq]; omega) | decide +kernel | (repeat first | rw [al] | rw [aq])) only [wpS, wpT, Nat.reduceEqDiff, Nat.reduceLeDiff, Nat.reduceAdd, LA, RT, f2, ai gx, Ro]
  refine call (FC hN hsz) ?_
  rintro m h1 ⟨X1, ll, hm, hl, hr⟩
  have kd : KX ll := xP (by omega) (by omega) (fun x hx => by rw [hl]; exact hr x hx)
  have l1 := kd.1.1
  have l4 := kd.2.1
  obtain ⟨cm, co, hlen⟩ := hm.co
  have n1 := X1.n
  have gx1 := X1.kept lbx gx
  simp -dsimp (maxSteps := 1000000) (disch := first | omega | (simp only [al, aq]; omega) | decide +kernel | (repeat first | rw [al] | rw [aq])) only [wpS, wpT, Nat.reduceEqDiff, Nat.reduceLeDiff, Nat.reduceAdd, Ug, hlen, f2, ai gx1, tk7]
  refine call (ID (n := ll.length) (hS.ab X1.ab) (hL.ab X1.ab) (hA.ab X1.ab) (by omega) (by omega) hN.1.cok cR cQ) ?_
  rintro _ h2 ⟨X2, v7, v8, v9, sc, lv, st, rfl, s7, s8, s9, b1, b2, b3, b4, b5, b6⟩
  have n2 := X2.n
  have gx2 := X2.kept (by omega) gx1
  have X12 := X1.trans X2
  simp -dsimp (maxSteps := 1000000) (disch := first | omega | (simp only [al, aq]; omega) | decide +kernel | (repeat first | rw [al] | rw [aq])) only [wpS, wpT, Nat.reduceEqDiff, Nat.reduceLeDiff, Nat.reduceAdd, LA, RT, f2, ai gx2, Ro]
  refine call (BI (hN.ab X12.ab) ll.length (by omega)) ?_
  rintro w h3 ⟨X3, ws, hw, lw, bw⟩
  have n3 := X3.n
  have X13 := X12.trans X3
  have gc3 := X13.kept lbc gc
  have X23 := X2.trans X3
  simp -dsimp (maxSteps := 1000000) (disch := first | omega | (simp only [al, aq]; omega) | decide +kernel | (repeat first | rw [al] | rw [aq])) only [wpS, wpT, Nat.reduceEqDiff, Nat.reduceLeDiff, eH, f3, ai gc3, tk1]
  refine call (vY (hm.ab X23.ab) hw (s7.ab X3.ab) (s8.ab X3.ab) (s9.ab X3.ab) hs) ?_
  rintro _ h4 ⟨X4, out, rfl, S⟩
  have n4 := X4.n
  obtain ⟨F, hF⟩ : ∃ F, F = yG ll ws sc lv st s := ⟨_, rfl⟩
  rw [← hF] at S ⊢
  obtain ⟨H5, hH5⟩ : ∃ H, H = (h4.new (.cells [.int .u64 0] 0 none)).put h4.n (.cells [K64 F.2.2.1] 0 none) := ⟨_, rfl⟩
  have E5 : Ext h4 H5 := by rw [hH5]; exact ((Ext.refl h4).new _).put (Nat.le_refl _) _
  have n5 : H5.n = h4.n + 1 := by rw [hH5]; rfl
  have b13 : H5.ext.get h4.n = some (.cells [K64 F.2.2.1] 0 none) := by rw [hH5]; exact ad _ _ rfl
  have Qa := s8.1.len (P := Proofs.Tryz.prog) cW
  simp -dsimp (maxSteps := 1000000) (disch := first | omega | (simp only [al, aq]; omega) | decide +kernel | (repeat first | rw [al] | rw [aq])) only [wpS, wpT, Nat.reduceEqDiff, Nat.reduceLeDiff, nW, gH, chV, ← hH5, Qa]
  clear hH5
  by_cases c0 : lv.length = 0
  · have e0 := Ij (ws := ws) (s := sc) (st := st) (c := s) kd.1 c0
    rw [e0] at hF
    subst hF
    rw [c0]
    simp -dsimp (maxSteps := 1000000) (disch := first | omega | (simp only [al, aq]; omega) | decide +kernel | (repeat first | rw [al] | rw [aq])) only [wpS, wpT]
    refine drawn [(3, [0])] (by kernel_rfl) (by kernel_rfl) rfl ?_
    simp -dsimp (maxSteps := 1000000) (disch := first | omega | (simp only [al, aq]; omega) | decide +kernel | (repeat first | rw [al] | rw [aq])) only [wpS]
    refine call G8 ?_
    rintro _ H6 ⟨rfl, hH6⟩
    have E6 : Ext H5 H6 := by rw [hH6]; exact (Ext.refl H5).new _
    have n6 : H6.n = H5.n + 1 := by rw [hH6]; rfl
    have b5 : H6.ext.get H5.n = some (.cells [KI 340] 0 none) := by rw [hH6]; exact aa _ _ rfl
    clear hH6
    have L0 := qj (E6.kept (by omega) b13)
    have L1 := qj b13
    simp -dsimp (maxSteps := 1000000) (disch := first | omega | (simp only [al, aq]; omega) | decide +kernel | (repeat first | rw [al] | rw [aq])) only [wpS, Nat.reduceEqDiff, L0]
    refine call (DD (S.ab (E5.trans E6).ab) (by omega) b5) ?_
    rintro _ h7 ⟨X7, rfl⟩
    simp -dsimp (maxSteps := 1000000) (disch := first | omega | (simp only [al, aq]; omega) | decide +kernel | (repeat first | rw [al] | rw [aq])) only [wpS, Nat.reduceEqDiff]
    refine ⟨ak rfl rfl rfl rfl (aA (av := ptr (2 * h4.n) 0) (by simp) L0 L1), ?_⟩
    simp -dsimp (maxSteps := 1000000) (disch := first | omega | (simp only [al, aq]; omega) | decide +kernel | (repeat first | rw [al] | rw [aq])) only [wpS, wpT, Nat.reduceEqDiff, Nat.reduceAdd]
  have d0 : ((lv.length : Int) == 0) = false := by simpa using c0
  simp -dsimp (maxSteps := 1000000) (disch := first | omega | (simp only [al, aq]; omega) | decide +kernel | (repeat first | rw [al] | rw [aq])) only [wpS, Nat.reduceEqDiff, d0]
  rcases Ii (c := s) kd lw b1 bw b2 (by omega) b3 b4 b5 b6 hs with e | ⟨p, q, sw, c', e, hpl, hq, hpk⟩
  · rw [e] at hF
    subst hF
    simp -dsimp (maxSteps := 1000000) (disch := first | omega | (simp only [al, aq]; omega) | decide +kernel | (repeat first | rw [al] | rw [aq])) only [wpS, wpT, Nat.reduceEqDiff]
  rw [e] at hF
  subst hF
  have ql : q.length = lv.length := by
    rcases hq with ⟨_, rfl⟩ | ⟨k, _, _, rfl⟩
    · exact hpl
    · rw [gG, hpl]
  have lno : ∀ h', nT Proofs.Tryz.prog h' 25 out = some (KN lv.length) := fun h' => by
    have := S.len (P := Proofs.Tryz.prog) cW h'
    rw [this]
    exact congrArg (fun x : Nat => some (KN x)) ql
  have w1 : decide (sw < -1) = false := by
    rw [decide_eq_false_iff_not]
    rcases hq with ⟨rfl, _⟩ | ⟨k, _, rfl, _⟩ <;> omega
  have w2 : decide ((lv.length : Int) - 2 < sw) = false := by
    rw [decide_eq_false_iff_not]
    rcases hq with ⟨rfl, _⟩ | ⟨k, _, rfl, _⟩ <;> omega
  have d1 : ((lv.length : Int) != (lv.length : Int)) = false := by simp
  simp -dsimp (maxSteps := 1000000) (disch := first | omega | (simp only [al, aq]; omega) | decide +kernel | (repeat first | rw [al] | rw [aq])) only [wpS, wpT, Nat.reduceEqDiff, lno, Qa, w1, w2, d1]
  have S' : bI h4 1 out lv.length (q.map KN) := by rw [← ql]; exact S
  refine call (I9 (S'.ab E5.ab) (by omega) (by simp [aG]) (by omega)) ?_
  rintro _ h6 ⟨X6, j, j1, j2, rfl, gj⟩
  have n6 := X6.n
  simp -dsimp (maxSteps := 1000000) (disch := first | omega | (simp only [al, aq]; omega) | decide +kernel | (repeat first | rw [al] | rw [aq])) only [wpS, Nat.reduceEqDiff]
  refine fR (fun fr H => Ext H5 H ∧ bI H 1 (.slice (some ⟨2 * j, 0, none⟩) lv.length (2 * lv.length)) lv.length (p.map KN) ∧ ah fr 5 = some m ∧ ah fr 6 = some (KN ll.length) ∧ ah fr 7 = some v7 ∧ ah fr 8 = some v8 ∧ ah fr 9 = some v9 ∧ ah fr 10 = some w ∧ ah fr 15 = some (.slice (some ⟨2 * j, 0, none⟩) lv.length (2 * lv.length))) (fun hcq => ?_) (fun hcq => ?_) ?_
  · simp only [decide_eq_true_eq] at hcq
    obtain ⟨k, hk1, rfl, rfl⟩ : ∃ k : Nat, k + 1 < lv.length ∧ sw = k ∧ q = fl p k := by
      rcases hq with ⟨rfl, _⟩ | hq
      · omega
      · exact hq
    have G6 : Jt h6 j (j + 1) (.slice (some ⟨2 * j, 0, none⟩) lv.length (2 * lv.length)) lv.length ((fl p k).map KN) := ⟨by rw [List.length_map, ql], j, _, none, rfl, .inl rfl, by omega, Nat.le_refl _, by omega, by omega, gj, trivial⟩
    have ix0 := G6.sl.idx fc (P := Proofs.Tryz.prog) (k := .i64) (j := k) (by omega)
    have ix1 : indexAddr Proofs.Tryz.prog 25 (.slice (some ⟨2 * j, 0, none⟩) lv.length (2 * lv.length)) (KI ((k : Int) + 1)) = some (aK (.slice (some ⟨2 * j, 0, none⟩) lv.length (2 * lv.length)) ((k + 1) * 1)) := G6.sl.idx fc (P := Proofs.Tryz.prog) (k := .i64) (j := k + 1) (by omega)
    rw [Nat.mul_one] at ix0 ix1
    obtain ⟨u0, hu0⟩ : ∃ a, (fl p k)[k]? = some a := ⟨_, List.getElem?_eq_getElem (by omega)⟩
    obtain ⟨u1, hu1⟩ : ∃ a, (fl p k)[k + 1]? = some a := ⟨_, List.getElem?_eq_getElem (by omega)⟩
    have ld0 := (G6.sl.ld (aF.refl h6) (by simp; omega) ag3 (P := Proofs.Tryz.prog) (c := k)).trans (show ((fl p k).map KN)[k]? = some (KN u0) by rw [List.getElem?_map, hu0]; rfl)
    have ld1 := (G6.sl.ld (aF.refl h6) (by simp; omega) ag3 (P := Proofs.Tryz.prog) (c := k + 1)).trans (show ((fl p k).map KN)[k + 1]? = some (KN u1) by rw [List.getElem?_map, hu1]; rfl)
    obtain ⟨H9, st1, B9, S9⟩ := G6.set (P := Proofs.Tryz.prog) (t := 3) sz3 (i := k) (by omega) (x := KN u1) rfl rfl
    obtain ⟨HA, st2, BA, SA⟩ := B9.set (P := Proofs.Tryz.prog) (t := 3) sz3 (i := k + 1) (by omega) (x := KN u0) rfl rfl
    simp -dsimp (maxSteps := 1000000) (disch := first | omega | (simp only [al, aq]; omega) | decide +kernel | (repeat first | rw [al] | rw [aq])) only [wpS, wpT, Nat.reduceEqDiff, ix0, ix1, ld0, ld1, st1, st2]
    have SS := S9.trans SA
    have EA := SS.ext X6 (by omega)
    have g0 : (fl p k).getD k 0 = u0 := by rw [List.getD_eq_getElem?_getD, hu0]; rfl
    have g1 : (fl p k).getD (k + 1) 0 = u1 := by rw [List.getD_eq_getElem?_getD, hu1]; rfl
    have tw := Cn (p := p) (k := k) (by omega)
    rw [g0, g1] at tw
    have ec : (((fl p k).map KN).set k (KN u1)).set (k + 1) (KN u0) = p.map KN := by rw [← List.map_set, ← List.map_set, tw]
    rw [ec] at BA
    exact ⟨EA, BA.sl, by simp, by simp, by simp, by simp, by simp, by simp, by simp⟩
  · simp only [decide_eq_false_iff_not] at hcq
    obtain rfl : q = p := by
      rcases hq with ⟨_, hq⟩ | ⟨k, _, rfl, _⟩
      · exact hq
      · omega
    simp -dsimp (maxSteps := 1000000) (disch := first | omega | (simp only [al, aq]; omega) | decide +kernel | (repeat first | rw [al] | rw [aq])) only [wpS, wpT]
    exact ⟨X6, cV gj j2 (by omega) (by rw [List.length_map, hpl, Nat.mul_one]) (by omega) (by omega), by simp, by simp, by simp, by simp, by simp, by simp, by simp⟩
  rintro fr H ⟨EH, P, f5, f6, f7, f8, f9, f10, f15⟩
  have nH := EH.n
  have E4H := (X4.trans E5).trans EH
  simp -dsimp (maxSteps := 1000000) (disch := first | omega | (simp only [al, aq]; omega) | decide +kernel | (repeat first | rw [al] | rw [aq])) only [wpS, f8, Qa]
  refine loop (fun mk fr g => ∃ i : Nat, i + mk = lv.length ∧ Ext H g ∧ ah fr 5 = some m ∧ ah fr 6 = some (KN ll.length) ∧ ah fr 7 = some v7 ∧ ah fr 9 = some v9 ∧ ah fr 10 = some w ∧ ah fr 15 = some (.slice (some ⟨2 * j, 0, none⟩) lv.length (2 * lv.length)) ∧ ah fr 103 = some v8 ∧ ah fr 104 = some (KN lv.length) ∧ ah fr 105 = some (KN i)) lv.length
    ⟨0, by omega, Ext.refl _, by simp [f5], by simp [f6], by simp [f7], by simp [f9], by simp [f10], by simp [f15], by simp, by simp, by simp⟩ ?_
  clear f5 f6 f7 f8 f9 f10 f15
  rintro mk fr g ⟨i, him, E, f5, f6, f7, f9, f10, f15, f103, f104, f105⟩
  simp -dsimp (maxSteps := 1000000) (disch := first | omega | (simp only [al, aq]; omega) | decide +kernel | (repeat first | rw [al] | rw [aq])) only [wpS, f104, f105]
  refine ax ?_ ?_ <;> intro hc1 <;> simp only [decide_eq_true_eq, decide_eq_false_iff_not] at hc1
  · have hi : i < lv.length := by omega
    obtain ⟨a, ha⟩ : ∃ a, lv[i]? = some a := ⟨_, List.getElem?_eq_getElem hi⟩
    obtain ⟨si, hsi⟩ : ∃ a, st[i]? = some a := ⟨_, List.getElem?_eq_getElem (by omega)⟩
    obtain ⟨x, hx⟩ : ∃ a, p[i]? = some a := ⟨_, List.getElem?_eq_getElem (by omega)⟩
    have ga : lv.getD i 0 = a := by rw [List.getD_eq_getElem?_getD, ha]; rfl
    have gs : st.getD i 0 = si := by rw [List.getD_eq_getElem?_getD, hsi]; rfl
    have gx' : p.getD i 0 = x := by rw [List.getD_eq_getElem?_getD, hx]; rfl
    have E3g := E4H.trans E
    have a64 := s8.2.2 a (List.mem_of_getElem? ha)
    have ix8 := s8.1.idx fc (P := Proofs.Tryz.prog) (k := .i64) (j := i) hi
    have ld8 := fS s8 (X3.trans E3g).ab ha
    simp -dsimp (maxSteps := 1000000) (disch := first | omega | (simp only [al, aq]; omega) | decide +kernel | (repeat first | rw [al] | rw [aq])) only [wpS, wpT, Nat.reduceEqDiff, f5, f7, f10, f103, f105, ix8, ld8]
    refine call (mV (hm.ab (X23.trans E3g).ab) (hw.ab E3g.ab) (s7.ab (X3.trans E3g).ab) a64) ?_
    rintro _ g1 ⟨Y1, o2, rfl, q1, _⟩
    obtain ⟨le, _⟩ := tJ kd lw b1 bw b2 (b4 a (List.mem_of_getElem? ha))
    rw [le]
    have sk := q1 le
    obtain ⟨ck, cok, lnk⟩ := sk.co
    obtain ⟨kok, Uj, _⟩ := mC le
    have RW : (kB ll (jv (jo sc a) ws ws.length)).length = ll.length := Uj
    obtain ⟨pr, hpr, qR⟩ := hpk i hi
    unfold rowAt at hpr
    rw [ga, gs, gx'] at hpr
    obtain ⟨y0, y1⟩ := b6 si (List.mem_of_getElem? hsi)
    obtain ⟨y, rfl⟩ := Int.eq_ofNat_of_zero_le y0
    obtain ⟨row, dE⟩ : ∃ row, (pT ll ws sc a)[y]? = some row := ⟨_, List.getElem?_eq_getElem (by omega)⟩
    rw [Int.toNat_natCast, List.getD_eq_getElem?_getD, dE, Option.getD_some] at hpr
    obtain ⟨rl, ro⟩ := kok.2.2 row (List.mem_of_getElem? dE)
    have xl : x < ll.length := by
      have := (List.getElem?_eq_some_iff.1 hpr).1
      omega
    have E5g := E.trans Y1
    have Pg := P.ab E5g.ab
    have ixp := Pg.idx fc (P := Proofs.Tryz.prog) (k := .i64) (j := i) hi
    rw [Nat.mul_one] at ixp
    have ldp := (Pg.ld (aF.refl g1) (by simp; omega) ag3 (P := Proofs.Tryz.prog) (c := i)).trans (show (p.map KN)[i]? = some (KN x) by rw [List.getElem?_map, hx]; rfl)
    have e1 : decide ((x : Int) < 0) = false := by rw [decide_eq_false_iff_not]; omega
    have e2 : decide ((ll.length : Int) ≤ (x : Int)) = false := by rw [decide_eq_false_iff_not]; omega
    have e3 : ((ll.length : Int) != (ll.length : Int)) = false := by simp
    rw [RW] at lnk
    simp -dsimp (maxSteps := 1000000) (disch := first | omega | (simp only [al, aq]; omega) | decide +kernel | (repeat first | rw [al] | rw [aq])) only [wpS, wpT, Nat.reduceEqDiff, f6, f15, ixp, ldp, lnk, e1, e2, e3]
    refine call (IK sk) ?_
    rintro _ g2 ⟨Y2, rfl⟩
    have Ui : fL (kB ll (jv (jo sc a) ws ws.length)) := kok
    rw [decide_eq_true Ui]
    obtain ⟨wr, A1, A2, A3⟩ := (sk.ab Y2.ab).nR dE
    have ix9 := s9.1.idx fc (P := Proofs.Tryz.prog) (k := .i64) (j := i) (by omega)
    have E3k := (X3.trans E3g).trans (Y1.trans Y2)
    have ld9 := fS s9 E3k.ab hsi
    have Pk := P.ab (E5g.trans Y2).ab
    have ldk := (Pk.ld (aF.refl g2) (by simp; omega) ag3 (P := Proofs.Tryz.prog) (c := i)).trans (show (p.map KN)[i]? = some (KN x) by rw [List.getElem?_map, hx]; rfl)
    have ixs := A2.1.idx sK (P := Proofs.Tryz.prog) (k := .i64) (j := x) (by omega)
    have lds := A2.ld (aF.refl g2) hpr
    have bad := oJ (ro.1 pr (List.mem_of_getElem? hpr))
    have pw := A2.2.2 pr (List.mem_of_getElem? hpr)
    have lw2 := A1 g2 (aF.refl _)
    simp -dsimp (maxSteps := 1000000) (disch := first | omega | (simp only [al, aq]; omega) | decide +kernel | (repeat first | rw [al] | rw [aq])) only [wpS, wpT, Nat.reduceEqDiff, f9, f15, ix9, ld9, A3, lw2, ixp, ldk, ixs, lds]
    refine call (Ia pw bad.1) ?_
    rintro _ g3 ⟨Y3, rfl⟩
    have sg : (if rOf pr < 0 then (-1 : Int) else if rOf pr = 0 then 0 else 1) = 1 := by
      rw [if_neg (by grind), if_neg (by grind)]
    rw [sg]
    simp -dsimp (maxSteps := 1000000) (disch := first | omega | (simp only [al, aq]; omega) | decide +kernel | (repeat first | rw [al] | rw [aq])) only [wpS, wpT, Nat.reduceEqDiff, f105]
    exact ⟨mk - 1, by omega, i + 1, by omega, (E5g.trans Y2).trans Y3, by simp [f5], by simp [f6], by simp [f7], by simp [f9], by simp [f10], by simp [f15], by simp [f103], by simp [f104], by simp⟩
  · simp -dsimp (maxSteps := 1000000) (disch := first | omega | (simp only [al, aq]; omega) | decide +kernel | (repeat first | rw [al] | rw [aq])) only [wpS, wpT]
end
end Go.Id

namespace Go.Id
open Go
open Go.Proofs.Tryz (prog)
open Nat renaming reduceAdd→zA,reduceEqDiff→zE,reduceLeDiff→zL
theorem Li {h:IH} {w:Value} (c:w.cells = #[w]) :
  WV prog (.func (.func 26) #[] #[]) [w] h fun r h'=>r=.func (.func 98) #[] #[ptr (2*h.n) 0]∧h'=h.new (.cells [w] 0 none):=by
 refine enter (nt:=4) (rs:=[.tmp 2]) Proofs.Tryz.func26 rfl rfl rfl (by simp) ?_
 simp -dsimp (disch:=try exact dx) only[wpS,wpT,zE,c]
theorem GX {h:IH} {v w:Value} {ll:List (List (Nat×Nat))} {b:Nat} (hv:je h v ll) (hw:je h w ll) (g:h.ext.get b=some (.cells [w] 0 none)) :
  WV prog (.func (.func 98) #[] #[ptr (2*b) 0]) [v,KI 0] h fun r h'=>h'=h∧r=.bool true:=by
 refine enter (nt:=13) (rs:=[.tmp 5]) Proofs.Tryz.func98 rfl rfl rfl (by simp) ?_
 simp -dsimp (disch:=try exact dx) only[wpS,zE,zA,Qc,ai g]
 refine call (KY hv hw) ?_
 rintro _ _ ⟨rfl,rfl⟩
 simp -dsimp (disch:=try exact dx) only[wpS,wpT,zE,decide_true]
theorem Kj {h:IH} (n d:Int) (hn:dH n) (hd:dH d) (d0:d≠0):WV prog (.func (.func 102) #[] #[]) [KI n,KI d] h fun r h'=>Ext h h'∧r=iS (Rat.divInt n d):=by
 refine enter (nt:=14) (rs:=[.cell 4 32]) Proofs.Tryz.func102 rfl rfl rfl (by simp) ?_
 simp -dsimp (disch:=try exact dx) only[wpS,zE,zA,mi]
 have E1:Ext h (h.new (.cells Z16 0 none)):=(Ext.refl h).new _
 have g1:(h.new (.cells Z16 0 none)).ext.get h.n=some (.cells Z16 0 none):=by simp (disch:=try exact dx) only[aa]
 refine call (Na n d hn hd d0) ?_
 rintro _ h1 ⟨X1,rfl⟩
 have m1:=X1.n
 simp only[al] at m1
 have k1:=X1.kept (by simp) g1
 simp -dsimp (disch:=try exact dx) only[wpS,wpT,zE,zL,zA,mi,jr,fE,k1,aV,aH,cU,dX,bN]
 exact⟨(((E1.trans X1).new _).put (by omega) _).put (by omega) _,rfl⟩
theorem GL {h:IH} {n d:Int} :
  WV prog (.func (.func 28) #[] #[]) [KI n,KI d] h fun r h'=>r=.func (.func 101) #[] #[ptr (2*h.n) 0,ptr (2*(h.n+1)) 0]∧h'=(h.new (.cells [KI n] 0 none)).new (.cells [KI d] 0 none):=by
 refine enter (nt:=6) (rs:=[.tmp 4]) Proofs.Tryz.func28 rfl rfl rfl (by simp) ?_
 simp -dsimp (disch:=try exact dx) only[wpS,wpT,zE,zA]
theorem CU {h:IH} {n d:Int} {b c:Nat} (hn:dH n) (hd:dH d) (d0:d≠0) (hq:QW (Rat.divInt n d)) (hb:b<h.n) (hc:c<h.n) (gb:h.ext.get b=some (.cells [KI n] 0 none)) (gc:h.ext.get c=some (.cells [KI d] 0 none)) :
  WV prog (.func (.func 101) #[] #[ptr (2*b) 0,ptr (2*c) 0]) [iS (Rat.divInt n d),KI 0] h fun r h'=>Ext h h'∧r=.bool true:=by
 obtain⟨p,hp⟩ : ∃p,p=shq (Rat.divInt n d):=⟨_,rfl⟩
 have pw:p.1<W8∧p.2<W8:=by rw[hp];exact oq hq
 have eq:iS (Rat.divInt n d)=shV p.1 p.2:=by rw[hp];exact ij _
 rw[eq]
 obtain⟨H0,hH0⟩ : ∃H,H=h.new (.cells (shC p.1 p.2) 0 none):=⟨_,rfl⟩
 have E0:Ext h H0:=by rw[hH0];exact(Ext.refl h).new _
 have g0:H0.ext.get h.n=some (.cells (shC p.1 p.2) 0 none):=by rw[hH0];simp (disch:=try exact dx) only[aa]
 have hb0:=E0.kept hb gb
 have hc0:=E0.kept hc gc
 have e1 : ∀ox oy,binop prog .eql 32 ox oy (.agg (shC p.1 p.2).toArray) (.agg (shC p.1 p.2).toArray)=some (.bool true):=fun ox oy=>by
  have:=Ka pw.1 pw.2 pw.1 pw.2 ox oy
  rw[show decide (p.1=p.1∧p.2=p.2)=true by simp] at this
  exact this
 have n0:H0.n=h.n+1:=by rw[hH0];rfl
 refine enter (nt:=16) (rs:=[.tmp 6]) Proofs.Tryz.func101 rfl rfl rfl (by simp) ?_
 simp -dsimp (disch:=try exact dx) only[wpS,zE,zA,aV,←hH0]
 clear hH0
 refine drawn [(0,[10])] (by kernel_rfl) (by kernel_rfl) rfl ?_
 simp -dsimp (disch:=try exact dx) only[wpS,zE,zL,fE,ld3,ai g0,ai hb0,ai hc0,aH,bN]
 refine call (Kj n d hn hd d0) ?_
 rintro _ h1 ⟨X1,rfl⟩
 have L0:=(psh g0).2.2
 have L1:=(psh (X1.kept (by omega) g0)).2.2
 rw[eq]
 simp -dsimp (disch:=try exact dx) only[wpS,wpT,zE,shV,e1]
 refine⟨ak rfl rfl rfl rfl (aA (av:=ptr (2*h.n) 0) rfl L0 L1),?_⟩
 simp -dsimp (disch:=try exact dx) only[wpS,wpT,zE,zA]
 exact E0.trans X1
noncomputable abbrev UT:Code:=Proofs.Tryz.f5.body.getD .skip
section
variable {h hh:IH} {fr:Fr} {sz bx x1 x2 x3:Nat} {vN vS vL vA vR vQ:Value} {lN lS lL lA:List Nat}
end
end Go.Id
