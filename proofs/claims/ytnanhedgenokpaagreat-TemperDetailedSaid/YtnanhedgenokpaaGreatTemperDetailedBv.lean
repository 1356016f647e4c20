/-
  TemperDetailed: for every input the law returns true, and each argument reads as it did. Conditions: none but the row's own.
-/
import Derived.Test.YtnanhedgenokpaaGreatTemperDetailedBt
import Derived.Test.YtnanhedgenokpaaGreatTemperDetailedBu
import Derived.Test.YtnanhedgenokpaaGreatTemperDetailedBl
import Derived.Test.YtnanhedgenokpaaGreatTemperDetailedBo
set_option linter.unusedVariables false
set_option linter.unusedSimpArgs false
set_option linter.defProp false
set_option linter.deprecated false
namespace Go.Id
open Go
noncomputable abbrev bodyDt : Code := Proofs.Tryz.f6.body.getD .skip
theorem dt0 (base : Nat → Option (List Value)) (sz : Nat) (vN vS vL vA vR vQ : Value) (x y z w : Nat) :
    evC (E1 Proofs.Tryz.prog tb34) (callV (E1 Proofs.Tryz.prog tb34) 1) 6 234 none 1 (partAt bodyDt 0) (enterFr 0 [.agg #[B8 sz, vN, vS, vL, vA, vR, vQ], B8 x, B8 y, B8 z, B8 w]) (IH.start base) = some (.normal, (10, .bool false) :: (5, ptr 0 0) :: enterFr 0 [.agg #[B8 sz, vN, vS, vL, vA, vR, vQ], B8 x, B8 y, B8 z, B8 w], (IH.start base).new (.cells [B8 sz, vN, vS, vL, vA, vR, vQ] 0 none)) := rfl
theorem dt1 (fr : Fr) (h : IH) :
    evC (E1 Proofs.Tryz.prog tb34) (callV (E1 Proofs.Tryz.prog tb34) 1) 6 234 none 1 (partAt bodyDt 1) fr h = some (.normal, (41, .bool false) :: (40, .bool true) :: fr, h) := rfl
noncomputable abbrev QDt : IExit → Fr → IH → Prop := retK Proofs.Tryz.prog [.tmp 10] fun r _ => r = .bool true
/-- The targets of a level, as they stand in the list. -/
theorem tgt_at {ll : List (List (Nat × Nat))} {ws : List Nat} {s : List Int} {level : Int} (hws : ws.length = ll.length) (hsl : s.length = ll.length) (hw : ∀ p ∈ ws, 1 ≤ wdI p ∧ wdI p ≤ 9) (hs : ∀ x ∈ s, 0 ≤ x ∧ x ≤ 30) (hl : 0 ≤ level ∧ level ≤ 8) {i : Nat} (hi : i < ll.length) :
    (mapZ (tgtZ s level) ws ws.length)[i]? = some (tauN ws s level i) := by
  rw [mapZ, List.getElem?_map, List.getElem?_range (by omega)]
  show some (wideN (tgtZ s level i (ws.getD i 0))) = _
  rw [(tau_b (i := i) hw hs hl (by omega) (by omega)).2.2, wideN_nat]
set_option maxHeartbeats 16000000 in
set_option maxRecDepth 50000 in
open Classical in
theorem detailed_tail {hD : IH} {fr : Fr} {c29 c30 c32 c34 u v k1 k2 : Nat} {p q pu : Nat × Nat} (ul : u < H8) (vl : v < H8) (q1 : QW (Rat.divInt (u : Int) ((2 ^ k1 : Nat) : Int))) (ee : Rat.divInt (u : Int) ((2 ^ k1 : Nat) : Int) = Rat.divInt (v : Int) ((2 ^ k2 : Nat) : Int))
    (pw : p.1 < W8 ∧ p.2 < W8) (qw : q.1 < W8 ∧ q.2 < W8) (puw : pu.1 < W8 ∧ pu.2 < W8) (po : rOf p = exq k1 ∧ okS p.1 p.2) (qo : rOf q = exq k2 ∧ okS q.1 q.2) (puo : rOf pu = Rat.divInt (u : Int) 1 ∧ okS pu.1 pu.2)
    (l29 : c29 < hD.n) (l30 : c30 < hD.n) (l32 : c32 < hD.n) (l34 : c34 < hD.n)
    (g29D : hD.ext.get c29 = some (.cells (shC p.1 p.2) 0 none)) (g30D : hD.ext.get c30 = some (.cells (shC q.1 q.2) 0 none)) (g32D : hD.ext.get c32 = some (.cells (wdC v) 0 none)) (g34 : hD.ext.get c34 = some (.cells (shC pu.1 pu.2) 0 none)) (n30 : c30 ≠ c34)
    (f22 : fget fr 22 = some (KI 0)) (f24 : fget fr 24 = some (KI 0)) (f26 : fget fr 26 = some (KI 0)) (f33 : fget fr 33 = some (KI 0)) (f35 : fget fr 35 = some (KI 0)) (f29 : fget fr 29 = some (ptr (2 * c29) 0)) (f30 : fget fr 30 = some (ptr (2 * c30) 0)) (f32 : fget fr 32 = some (ptr (2 * c32) 0)) (f34 : fget fr 34 = some (ptr (2 * c34) 0)) :
    Do (wpC Proofs.Tryz.prog 6 234 none (restAt bodyDt 18) fr hD) QDt nx := by
  show Do (wpC _ _ _ _ (.seq _ _) fr hD) _ _
  have i1' : In64 (1 : Int) := ⟨by omega, by omega⟩
  have lt1 : (1 : Nat) < H8 := by have := H8_1e12; omega
  have lt1w : (1 : Nat) < W8 := by have := H8_two; omega
  have V1 : QW (Rat.divInt (v : Int) 1) := divInt_QW (k := 0) vl (by omega)
  have vw : v < W8 := by have := H8_two; omega
  obtain ⟨pv, hpv⟩ : ∃ p, p = shq (Rat.divInt (v : Int) 1) := ⟨_, rfl⟩
  have pvw : pv.1 < W8 ∧ pv.2 < W8 := by rw [hpv]; exact shq_lt V1
  have pvo : rOf pv = Rat.divInt (v : Int) 1 ∧ okS pv.1 pv.2 := by rw [hpv]; exact shq_rOf V1
  have w1 : wideV 1 = wdV 1 := by
    show wdV (wideN 1) = wdV 1
    rw [show wideN 1 = 1 from wideN_nat 1]
  rw [d_seq]
  refine drawn [(0, [2])] (by kernel_rfl) (by kernel_rfl) rfl ?_
  simp -dsimp (maxSteps := 1000000) (disch := first | omega | (simp only [new_n, put_n]; omega) | decide +kernel | (repeat first | rw [new_n] | rw [put_n])) only [wpS, Nat.reduceLeDiff, ld30, f32, row_of g32D, wdC_len, wd_take0]
  refine call (wideOf_ok 1 i1') ?_
  rintro _ h15 ⟨X15, rfl⟩
  rw [w1]
  simp -dsimp (maxSteps := 1000000) (disch := first | omega | (simp only [new_n, put_n]; omega) | decide +kernel | (repeat first | rw [new_n] | rw [put_n])) only [wpS, Nat.reduceEqDiff]
  refine call (shmake_ok v 1 vw lt1w (by omega)) ?_
  rintro _ h16 ⟨X16, rfl⟩
  rw [wdI_nat vl, wdI_nat lt1, Int.natCast_one, if_pos V1, shareV_shq, ← hpv]
  have m16 := (X15.trans X16).n
  obtain ⟨HE, hHE⟩ : ∃ H, H = (h16.new (.cells Z16 0 none)).put h16.n (.cells (shC pv.1 pv.2) 0 none) := ⟨_, rfl⟩
  have EE : Ext h16 HE := by rw [hHE]; exact ((Ext.refl h16).new _).put (Nat.le_refl _) _
  have nE : HE.n = h16.n + 1 := by rw [hHE]; rfl
  have g36 : HE.ext.get h16.n = some (.cells (shC pv.1 pv.2) 0 none) := by rw [hHE]; simp (disch := first | omega | (simp only [new_n, put_n]; omega) | (repeat first | rw [new_n] | rw [put_n])) only [get_put_same]
  simp -dsimp (maxSteps := 1000000) (disch := first | omega | (simp only [new_n, put_n]; omega) | decide +kernel | (repeat first | rw [new_n] | rw [put_n])) only [wpS, wpT, Nat.reduceEqDiff, Nat.reduceLeDiff, Nat.reduceAdd, zc32, st32, shV_cells, shC_len, shC_all, sh_sp3, ← hHE]
  clear hHE
  refine ⟨wpSteady_one rfl rfl rfl rfl (steady_load f32 (ld_wd g32D) (ld_wd (X15.kept (by omega) g32D))), ?_⟩
  have XDE := (X15.trans X16).trans EE
  have g29E := XDE.kept (by omega) g29D
  have g30E := XDE.kept (by omega) g30D
  have g34E := XDE.kept (by omega) g34
  simp -dsimp (maxSteps := 1000000) (disch := first | omega | (simp only [new_n, put_n]; omega) | decide +kernel | (repeat first | rw [new_n] | rw [put_n])) only [wpS, wpT, Nat.reduceEqDiff, Nat.reduceLeDiff, Nat.reduceAdd, ld32, f34, f29, row_of g34E, row_of g29E, shC_len, sh_take]
  have spA : ∀ a b c d : Nat, IH.splice (shC a b) 0 (shC c d) = shC c d := fun a b c d => splice_all (by rw [shC_len, shC_len])
  refine call (shmul_ok puw pw puo.2 po.2) ?_
  rintro _ h17 ⟨X17, rfl⟩
  rw [puo.1, po.1, mul_exq]
  have m17 := X17.n
  obtain ⟨z, hz⟩ : ∃ z, z = shq (Rat.divInt (u : Int) ((2 ^ k1 : Nat) : Int)) := ⟨_, rfl⟩
  have zw : z.1 < W8 ∧ z.2 < W8 := by rw [hz]; exact shq_lt q1
  have t1 : toldV (Rat.divInt (u : Int) ((2 ^ k1 : Nat) : Int)) = .tuple #[shV z.1 z.2, KI 0] := by
    unfold toldV
    rw [if_pos q1, shareV_shq, ← hz]
  have t2 : toldV (Rat.divInt (v : Int) ((2 ^ k2 : Nat) : Int)) = .tuple #[shV z.1 z.2, KI 0] := by rw [← ee]; exact t1
  clear hz
  rw [t1]
  have g34F := X17.kept (by omega) g34E
  have g36F := X17.kept (by omega) g36
  have g30F := X17.kept (by omega) g30E
  obtain ⟨HF, hHF⟩ : ∃ H, H = h17.put c34 (.cells (shC z.1 z.2) 0 none) := ⟨_, rfl⟩
  have gF34 : HF.ext.get c34 = some (.cells (shC z.1 z.2) 0 none) := by rw [hHF]; simp (disch := first | omega | (simp only [new_n, put_n]; omega) | (repeat first | rw [new_n] | rw [put_n])) only [get_put_same]
  have gF36 : HF.ext.get h16.n = some (.cells (shC pv.1 pv.2) 0 none) := by rw [hHF]; simp (disch := first | omega | (simp only [new_n, put_n]; omega) | (repeat first | rw [new_n] | rw [put_n])) only [get_put_old]; exact g36F
  have gF30 : HF.ext.get c30 = some (.cells (shC q.1 q.2) 0 none) := by rw [hHF]; simp (disch := first | omega | (simp only [new_n, put_n]; omega) | (repeat first | rw [new_n] | rw [put_n])) only [get_put_old]; exact g30F
  have nF : HF.n = h17.n := by rw [hHF]; rfl
  simp -dsimp (maxSteps := 1000000) (disch := first | omega | (simp only [new_n, put_n]; omega) | decide +kernel | (repeat first | rw [new_n] | rw [put_n])) only [wpS, wpT, Nat.reduceEqDiff, Nat.reduceLeDiff, st32, ld32, f34, f30, g34F, shV_cells, shC_len, shC_all, spA, sh_take, ← hHF, row_of gF36, row_of gF30]
  refine call (shmul_ok pvw qw pvo.2 qo.2) ?_
  rintro _ h18 ⟨X18, rfl⟩
  rw [pvo.1, qo.1, mul_exq, t2]
  have m18 := X18.n
  have g34G := X18.kept (by omega) gF34
  have g36G := X18.kept (by omega) gF36
  obtain ⟨HG, hHG⟩ : ∃ H, H = h18.put h16.n (.cells (shC z.1 z.2) 0 none) := ⟨_, rfl⟩
  have gG34 : HG.ext.get c34 = some (.cells (shC z.1 z.2) 0 none) := by rw [hHG]; simp (disch := first | omega | (simp only [new_n, put_n]; omega) | (repeat first | rw [new_n] | rw [put_n])) only [get_put_old]; exact g34G
  have gG36 : HG.ext.get h16.n = some (.cells (shC z.1 z.2) 0 none) := by rw [hHG]; simp (disch := first | omega | (simp only [new_n, put_n]; omega) | (repeat first | rw [new_n] | rw [put_n])) only [get_put_same]
  have e1 : ∀ ox oy, binop Proofs.Tryz.prog .eql 32 ox oy (.agg (shC z.1 z.2).toArray) (.agg (shC z.1 z.2).toArray) = some (.bool true) := fun ox oy => by
    have := sh_eql zw.1 zw.2 zw.1 zw.2 ox oy
    rw [show decide (z.1 = z.1 ∧ z.2 = z.2) = true by simp] at this
    exact this
  simp -dsimp (maxSteps := 1000000) (disch := first | omega | (simp only [new_n, put_n]; omega) | decide +kernel | (repeat first | rw [new_n] | rw [put_n])) only [wpS, wpT, Nat.reduceEqDiff, Nat.reduceLeDiff, st32, ld32, f34, f22, f24, f26, f33, f35, g36G, shV_cells, shC_len, shC_all, spA, sh_take, ← hHG, row_of gG34, row_of gG36, e1]
section
variable {h hh : IH} {fr : Fr} {sz bx x1 x2 x3 x4 : Nat} {vN vS vL vA vR vQ : Value} {lN lS lL lA : List Nat}
set_option maxHeartbeats 16000000 in
set_option maxRecDepth 50000 in
open Classical in
theorem detailed_rest (hN : BySl h vN lN) (hS : BySl h vS lS) (hL : BySl h vL lL) (hA : BySl h vA lA) (cR : cellOK vR = true) (cQ : cellOK vQ = true) (hsz : sz < 256) (i1 : x1 < 256) (i2 : x2 < 256) (i3 : x3 < 256) (i4 : x4 < 256) (lbx : bx < h.n) (gx : h.ext.get bx = some (.cells [B8 sz, vN, vS, vL, vA, vR, vQ] 0 none)) (f1 : fget fr 1 = some (B8 x1)) (f2 : fget fr 2 = some (B8 x2)) (f3 : fget fr 3 = some (B8 x3)) (f4 : fget fr 4 = some (B8 x4)) (f5 : fget fr 5 = some (ptr (2 * bx) 0)) :
    Do (wpC Proofs.Tryz.prog 6 234 none (restAt bodyDt 2) fr h) QDt nx := by
  have tk2b : List.take 2 (List.drop 0 [B8 sz, vN, vS, vL, vA, vR, vQ]) = [B8 sz, vN] := rfl
  have tk7 : List.take 7 (List.drop 0 [B8 sz, vN, vS, vL, vA, vR, vQ]) = [B8 sz, vN, vS, vL, vA, vR, vQ] := rfl
  show Do (wpC _ _ _ _ (.seq _ _) fr h) _ _
  simp -dsimp (maxSteps := 1000000) (disch := first | omega | (simp only [new_n, put_n]; omega) | decide +kernel | (repeat first | rw [new_n] | rw [put_n])) only [wpS, wpT, Nat.reduceEqDiff, Nat.reduceLeDiff, Nat.reduceAdd, fa27_0, ld24, f5, row_of gx, tk2b]
  refine call (dkernel_ok hN hsz) ?_
  rintro m h1 ⟨X1, ll, hm, hl, hr⟩
  have kd : kerD ll := draft_kerD (by omega) (by omega) (fun x hx => by rw [hl]; exact hr x hx)
  have l1 := kd.1.1
  have l4 := kd.2.1
  obtain ⟨cm, co, hlen⟩ := hm.co
  have n1 := X1.n
  have gx1 := X1.kept lbx gx
  simp -dsimp (maxSteps := 1000000) (disch := first | omega | (simp only [new_n, put_n]; omega) | decide +kernel | (repeat first | rw [new_n] | rw [put_n])) only [wpS, wpT, Nat.reduceEqDiff, Nat.reduceLeDiff, Nat.reduceAdd, ld27, hlen, f5, row_of gx1, tk7]
  refine call (lists_ok2 (n := ll.length) (hS.keep X1.keep) (hL.keep X1.keep) (hA.keep X1.keep) (by omega) (by omega) hN.1.cok cR cQ) ?_
  rintro _ h2 ⟨X2, v7, v8, v9, sc, lv, st, rfl, s7, s8, s9, b1, b2, b3, b4, b5, b6⟩
  have n2 := X2.n
  have gx2 := X2.kept (by omega) gx1
  have X12 := X1.trans X2
  simp -dsimp (maxSteps := 1000000) (disch := first | omega | (simp only [new_n, put_n]; omega) | decide +kernel | (repeat first | rw [new_n] | rw [put_n])) only [wpS, wpT, Nat.reduceEqDiff, Nat.reduceLeDiff, Nat.reduceAdd, fa27_0, ld24, f5, row_of gx2, tk2b]
  refine call (dweights_ok2 (hN.keep X12.keep) ll.length (by omega)) ?_
  rintro w h3 ⟨X3, ws, hw, lw, bw⟩
  have n3 := X3.n
  have X13 := X12.trans X3
  have X23 := X2.trans X3
  have hr1 : ∀ ox oy, binop Proofs.Tryz.prog .rem 5 ox oy (B8 x1) (.int .u8 9) = some (.int .u8 ((x1 % 9 : Nat) : Int)) := fun ox oy => rem_natk _ _ .u8 ox oy x1 9 (by omega)
  have hr2 : ∀ ox oy, binop Proofs.Tryz.prog .rem 5 ox oy (B8 x2) (.int .u8 9) = some (.int .u8 ((x2 % 9 : Nat) : Int)) := fun ox oy => rem_natk _ _ .u8 ox oy x2 9 (by omega)
  have hr3 : ∀ ox oy, binop Proofs.Tryz.prog .rem 3 ox oy (.int .i64 (x3 : Int)) (.int .i64 (ll.length : Int)) = some (.int .i64 ((x3 % ll.length : Nat) : Int)) := fun ox oy => rem_natk _ _ .i64 ox oy x3 ll.length l1
  have hr4 : ∀ ox oy, binop Proofs.Tryz.prog .rem 3 ox oy (.int .i64 (x4 : Int)) (.int .i64 (ll.length : Int)) = some (.int .i64 ((x4 % ll.length : Nat) : Int)) := fun ox oy => rem_natk _ _ .i64 ox oy x4 ll.length l1
  obtain ⟨a, ha⟩ : ∃ a : Int, a = ((x1 % 9 : Nat) : Int) := ⟨_, rfl⟩
  obtain ⟨b, hb⟩ : ∃ a : Int, a = ((x2 % 9 : Nat) : Int) := ⟨_, rfl⟩
  have ya : 0 ≤ a ∧ a ≤ 8 := by omega
  have yb : 0 ≤ b ∧ b ≤ 8 := by omega
  rw [← ha] at hr1
  rw [← hb] at hr2
  obtain ⟨x, hx⟩ : ∃ x, x = x3 % ll.length := ⟨_, rfl⟩
  obtain ⟨y, hy⟩ : ∃ x, x = x4 % ll.length := ⟨_, rfl⟩
  have xl : x < ll.length := by rw [hx]; exact Nat.mod_lt _ l1
  have yl : y < ll.length := by rw [hy]; exact Nat.mod_lt _ l1
  rw [← hx] at hr3
  rw [← hy] at hr4
  clear hx hy ha hb
  simp -dsimp (maxSteps := 1000000) (disch := first | omega | (simp only [new_n, put_n]; omega) | decide +kernel | (repeat first | rw [new_n] | rw [put_n])) only [wpS, Nat.reduceEqDiff, cv5_3, f1, f2, f3, f4, hr1, hr2, hr3, hr4]
  have lva := lev_draft kd lw b1 bw b2 ya
  have lvb := lev_draft kd lw b1 bw b2 yb
  obtain ⟨tea, fea⟩ := levE_parts lva.1
  obtain ⟨teb, _⟩ := levE_parts lvb.1
  obtain ⟨ka, hta, hpa, hoa⟩ := filtE_parts fea
  have tax := tau_b (i := x) bw b2 ya (by omega) (by omega)
  have tay := tau_b (i := y) bw b2 ya (by omega) (by omega)
  have tbx := tau_b (i := x) bw b2 yb (by omega) (by omega)
  have tby := tau_b (i := y) bw b2 yb (by omega) (by omega)
  have atx := tgt_at lw b1 bw b2 ya xl
  have aty := tgt_at lw b1 bw b2 ya yl
  have btx := tgt_at lw b1 bw b2 yb xl
  have bty := tgt_at lw b1 bw b2 yb yl
  obtain ⟨TA, hTA⟩ : ∃ l, l = mapZ (tgtZ sc a) ws ws.length := ⟨_, rfl⟩
  obtain ⟨TB, hTB⟩ : ∃ l, l = mapZ (tgtZ sc b) ws ws.length := ⟨_, rfl⟩
  have lTA : TA.length = ll.length := by rw [hTA, mapZ_len, lw]
  have lTB : TB.length = ll.length := by rw [hTB, mapZ_len, lw]
  refine call (teTargets_ok hw (s7.keep X3.keep) ⟨by omega, by omega⟩) ?_
  rintro _ h4 ⟨X4, va, rfl, ta, _⟩
  have ta := ta tea
  rw [tea]
  rw [← hTA] at ta atx aty hta hpa hoa
  simp -dsimp (maxSteps := 1000000) (disch := first | omega | (simp only [new_n, put_n]; omega) | decide +kernel | (repeat first | rw [new_n] | rw [put_n])) only [wpS, Nat.reduceEqDiff]
  refine call (teTargets_ok (hw.keep X4.keep) (s7.keep (X3.trans X4).keep) ⟨by omega, by omega⟩) ?_
  rintro _ h5 ⟨X5, vb, rfl, tb, _⟩
  have tb := tb teb
  rw [teb]
  rw [← hTB] at tb btx bty
  simp -dsimp (maxSteps := 1000000) (disch := first | omega | (simp only [new_n, put_n]; omega) | decide +kernel | (repeat first | rw [new_n] | rw [put_n])) only [wpS, Nat.reduceEqDiff]
  have X35 := X4.trans X5
  refine call (teLevel_ok (hm.keep (X23.trans X35).keep) (hw.keep X35.keep) (s7.keep (X3.trans X35).keep) ⟨by omega, by omega⟩) ?_
  rintro _ h6 ⟨X6, vk, rfl, tk, _⟩
  have tk := tk lva.1
  rw [lva.1]
  rw [← hTA] at tk
  have kk : kerOk (filtLL ll TA) := filt_kerOk ka hta hpa hoa
  have lna := ta.1.len (P := Proofs.Tryz.prog) sl42
  have lnb := tb.1.len (P := Proofs.Tryz.prog) sl42
  rw [lTA] at lna
  rw [lTB] at lnb
  have d1 : ((ll.length : Int) != (ll.length : Int)) = false := by simp
  simp -dsimp (maxSteps := 1000000) (disch := first | omega | (simp only [new_n, put_n]; omega) | decide +kernel | (repeat first | rw [new_n] | rw [put_n])) only [wpS, wpT, Nat.reduceEqDiff, lna, lnb, d1]
  have X36 := X35.trans X6
  refine call (kreversible_ok tk (ta.keep (X5.trans X6).keep) kk (by rw [filtLL_len]; omega) hpa (fun i j hi hj => rev_pairs (by omega) hpa hoa i j (by rw [filtLL_len] at hi; exact hi) hj)) ?_
  rintro _ h7 ⟨X7, rfl⟩
  simp -dsimp (maxSteps := 1000000) (disch := first | omega | (simp only [new_n, put_n]; omega) | decide +kernel | (repeat first | rw [new_n] | rw [put_n])) only [wpS, wpT, Nat.reduceEqDiff]
  refine call (kcheck_ok (tk.keep X7.keep)) ?_
  rintro _ h8 ⟨X8, rfl⟩
  rw [kerE, if_pos kk]
  have X38 := (X36.trans X7).trans X8
  have k1 : chanceRes sc a b (x : Int) (y : Int) = .tuple #[shareV (exq (chK sc a b x y)), KI 0] := chanceRes_ok (by omega) (by omega) b2 ya yb (by omega) (by omega)
  have k2 : chanceRes sc a b (y : Int) (x : Int) = .tuple #[shareV (exq (chK sc a b y x)), KI 0] := chanceRes_ok (by omega) (by omega) b2 ya yb (by omega) (by omega)
  have kb1 := chK_le ya yb b2 (x := x) (y := y) (by omega) (by omega)
  have kb2 := chK_le ya yb b2 (x := y) (y := x) (by omega) (by omega)
  obtain ⟨p, hp⟩ : ∃ p, p = shq (exq (chK sc a b x y)) := ⟨_, rfl⟩
  obtain ⟨q, hq⟩ : ∃ p, p = shq (exq (chK sc a b y x)) := ⟨_, rfl⟩
  have pw : p.1 < W8 ∧ p.2 < W8 := by rw [hp]; exact shq_lt (exq_qw kb1)
  have qw : q.1 < W8 ∧ q.2 < W8 := by rw [hq]; exact shq_lt (exq_qw kb2)
  have po : rOf p = exq (chK sc a b x y) ∧ okS p.1 p.2 := by rw [hp]; exact shq_rOf (exq_qw kb1)
  have qo : rOf q = exq (chK sc a b y x) ∧ okS q.1 q.2 := by rw [hq]; exact shq_rOf (exq_qw kb2)
  rw [shareV_shq, ← hp] at k1
  rw [shareV_shq, ← hq] at k2
  clear hp hq
  simp -dsimp (maxSteps := 1000000) (disch := first | omega | (simp only [new_n, put_n]; omega) | decide +kernel | (repeat first | rw [new_n] | rw [put_n])) only [wpS, wpT, Nat.reduceEqDiff]
  refine call (teChance_ok (s7.keep (X3.trans X38).keep) ⟨by omega, by omega⟩ ⟨by omega, by omega⟩ ⟨by omega, by omega⟩ ⟨by omega, by omega⟩) ?_
  rintro _ h9 ⟨X9, rfl⟩
  rw [k1]
  obtain ⟨H9, hH9⟩ : ∃ H, H = (h9.new (.cells Z16 0 none)).put h9.n (.cells (shC p.1 p.2) 0 none) := ⟨_, rfl⟩
  have E9 : Ext h9 H9 := by rw [hH9]; exact ((Ext.refl h9).new _).put (Nat.le_refl _) _
  have n9 : H9.n = h9.n + 1 := by rw [hH9]; rfl
  have g29 : H9.ext.get h9.n = some (.cells (shC p.1 p.2) 0 none) := by rw [hH9]; simp (disch := first | omega | (simp only [new_n, put_n]; omega) | (repeat first | rw [new_n] | rw [put_n])) only [get_put_same]
  have X39 := (X38.trans X9).trans E9
  simp -dsimp (maxSteps := 1000000) (disch := first | omega | (simp only [new_n, put_n]; omega) | decide +kernel | (repeat first | rw [new_n] | rw [put_n])) only [wpS, wpT, Nat.reduceEqDiff, Nat.reduceLeDiff, Nat.reduceAdd, zc32, st32, shV_cells, shC_len, shC_all, sh_sp3, ← hH9]
  clear hH9
  refine call (teChance_ok (s7.keep (X3.trans X39).keep) ⟨by omega, by omega⟩ ⟨by omega, by omega⟩ ⟨by omega, by omega⟩ ⟨by omega, by omega⟩) ?_
  rintro _ h10 ⟨X10, rfl⟩
  rw [k2]
  have m10 := X10.n
  obtain ⟨HA, hHA⟩ : ∃ H, H = (h10.new (.cells Z16 0 none)).put h10.n (.cells (shC q.1 q.2) 0 none) := ⟨_, rfl⟩
  have EA : Ext h10 HA := by rw [hHA]; exact ((Ext.refl h10).new _).put (Nat.le_refl _) _
  have nA : HA.n = h10.n + 1 := by rw [hHA]; rfl
  have g30 : HA.ext.get h10.n = some (.cells (shC q.1 q.2) 0 none) := by rw [hHA]; simp (disch := first | omega | (simp only [new_n, put_n]; omega) | (repeat first | rw [new_n] | rw [put_n])) only [get_put_same]
  have g29A := (X10.trans EA).kept (by omega) g29
  have X3A := (X39.trans X10).trans EA
  simp -dsimp (maxSteps := 1000000) (disch := first | omega | (simp only [new_n, put_n]; omega) | decide +kernel | (repeat first | rw [new_n] | rw [put_n])) only [wpS, wpT, Nat.reduceEqDiff, Nat.reduceLeDiff, Nat.reduceAdd, zc32, st32, shV_cells, shC_len, shC_all, sh_sp3, ← hHA]
  clear hHA
  have ixa := fun (i : Nat) (hi : i < ll.length) => ta.1.idx es42 (P := Proofs.Tryz.prog) (k := .i64) (j := i) (by omega)
  have ixb := fun (i : Nat) (hi : i < ll.length) => tb.1.idx es42 (P := Proofs.Tryz.prog) (k := .i64) (j := i) (by omega)
  have XaA : Ext h4 HA := (((((X5.trans X6).trans X7).trans X8).trans X9).trans E9).trans (X10.trans EA)
  have XbA : Ext h5 HA := ((((X6.trans X7).trans X8).trans X9).trans E9).trans (X10.trans EA)
  obtain ⟨u, hu⟩ : ∃ n, n = tauN ws sc a x * tauN ws sc b y := ⟨_, rfl⟩
  obtain ⟨v, hv⟩ : ∃ n, n = tauN ws sc a y * tauN ws sc b x := ⟨_, rfl⟩
  have ul : u < H8 := by rw [hu]; exact tau2_lt tax.2.1 tby.2.1
  have vl : v < H8 := by rw [hv]; exact tau2_lt tay.2.1 tbx.2.1
  have ee : Rat.divInt (u : Int) ((2 ^ chK sc a b x y : Nat) : Int) = Rat.divInt (v : Int) ((2 ^ chK sc a b y x : Nat) : Int) := by
    rw [hu, hv]
    exact exchange_even b2 ya yb (by omega) (by omega)
  have q1 := divInt_QW ul kb1
  have q2 := divInt_QW vl kb2
  simp -dsimp (maxSteps := 1000000) (disch := first | omega | (simp only [new_n, put_n]; omega) | decide +kernel | (repeat first | rw [new_n] | rw [put_n])) only [wpS, Nat.reduceEqDiff, ixa x xl, ixb y yl, ta.ld XaA.keep atx, tb.ld XbA.keep bty]
  refine call (wmulN_ok _ _ (tau_H8 tax.2.1) (tau_H8 tby.2.1) (by rw [← hu]; exact ul)) ?_
  rintro _ h11 ⟨X11, rfl⟩
  rw [← hu]
  have m11 := X11.n
  obtain ⟨HB, hHB⟩ : ∃ H, H = (h11.new (.cells [ZW, ZW, ZW, ZW, ZW, ZW, ZW, ZW] 0 none)).put h11.n (.cells (wdC u) 0 none) := ⟨_, rfl⟩
  have EB : Ext h11 HB := by rw [hHB]; exact ((Ext.refl h11).new _).put (Nat.le_refl _) _
  have nB : HB.n = h11.n + 1 := by rw [hHB]; rfl
  have g31 : HB.ext.get h11.n = some (.cells (wdC u) 0 none) := by rw [hHB]; simp (disch := first | omega | (simp only [new_n, put_n]; omega) | (repeat first | rw [new_n] | rw [put_n])) only [get_put_same]
  have g29B := (X11.trans EB).kept (by omega) g29A
  have g30B := (X11.trans EB).kept (by omega) g30
  have XaB := (XaA.trans X11).trans EB
  have XbB := (XbA.trans X11).trans EB
  simp -dsimp (maxSteps := 1000000) (disch := first | omega | (simp only [new_n, put_n]; omega) | decide +kernel | (repeat first | rw [new_n] | rw [put_n])) only [wpS, wpT, Nat.reduceEqDiff, Nat.reduceLeDiff, Nat.reduceAdd, zc30, st30, cells8, wdC_len, wdC_all, wd_spl, ← hHB, ixa y yl, ixb x xl, ta.ld XaB.keep aty, tb.ld XbB.keep btx]
  clear hHB
  refine call (wmulN_ok _ _ (tau_H8 tay.2.1) (tau_H8 tbx.2.1) (by rw [← hv]; exact vl)) ?_
  rintro _ h12 ⟨X12', rfl⟩
  rw [← hv]
  have m12 := X12'.n
  obtain ⟨HC, hHC⟩ : ∃ H, H = (h12.new (.cells [ZW, ZW, ZW, ZW, ZW, ZW, ZW, ZW] 0 none)).put h12.n (.cells (wdC v) 0 none) := ⟨_, rfl⟩
  have EC : Ext h12 HC := by rw [hHC]; exact ((Ext.refl h12).new _).put (Nat.le_refl _) _
  have nC : HC.n = h12.n + 1 := by rw [hHC]; rfl
  have g32 : HC.ext.get h12.n = some (.cells (wdC v) 0 none) := by rw [hHC]; simp (disch := first | omega | (simp only [new_n, put_n]; omega) | (repeat first | rw [new_n] | rw [put_n])) only [get_put_same]
  have XBC := X12'.trans EC
  have g29C := XBC.kept (by omega) g29B
  have g30C := XBC.kept (by omega) g30B
  have g31C := XBC.kept (by omega) g31
  simp -dsimp (maxSteps := 1000000) (disch := first | omega | (simp only [new_n, put_n]; omega) | decide +kernel | (repeat first | rw [new_n] | rw [put_n])) only [wpS, wpT, Nat.reduceEqDiff, Nat.reduceLeDiff, Nat.reduceAdd, zc30, st30, cells8, wdC_len, wdC_all, wd_spl, ← hHC]
  clear hHC
  have w1 : wideV 1 = wdV 1 := by
    show wdV (wideN 1) = wdV 1
    rw [show wideN 1 = 1 from wideN_nat 1]
  have lt1 : (1 : Nat) < H8 := by have := H8_1e12; omega
  have lt1w : (1 : Nat) < W8 := by have := H8_two; omega
  have i1' : In64 (1 : Int) := ⟨by omega, by omega⟩
  have U1 : QW (Rat.divInt (u : Int) 1) := divInt_QW (k := 0) ul (by omega)
  have uw : u < W8 := by have := H8_two; omega
  obtain ⟨pu, hpu⟩ : ∃ p, p = shq (Rat.divInt (u : Int) 1) := ⟨_, rfl⟩
  have puw : pu.1 < W8 ∧ pu.2 < W8 := by rw [hpu]; exact shq_lt U1
  have puo : rOf pu = Rat.divInt (u : Int) 1 ∧ okS pu.1 pu.2 := by rw [hpu]; exact shq_rOf U1
  refine drawn [(0, [2])] (by kernel_rfl) (by kernel_rfl) rfl ?_
  simp -dsimp (maxSteps := 1000000) (disch := first | omega | (simp only [new_n, put_n]; omega) | decide +kernel | (repeat first | rw [new_n] | rw [put_n])) only [wpS, Nat.reduceEqDiff, Nat.reduceLeDiff, ld30, row_of g31C, wdC_len, wd_take0]
  refine call (wideOf_ok 1 i1') ?_
  rintro _ h13 ⟨X13', rfl⟩
  rw [w1]
  simp -dsimp (maxSteps := 1000000) (disch := first | omega | (simp only [new_n, put_n]; omega) | decide +kernel | (repeat first | rw [new_n] | rw [put_n])) only [wpS, Nat.reduceEqDiff]
  refine call (shmake_ok u 1 uw lt1w (by omega)) ?_
  rintro _ h14 ⟨X14, rfl⟩
  rw [wdI_nat ul, wdI_nat lt1, Int.natCast_one, if_pos U1, shareV_shq, ← hpu]
  have m14 := (X13'.trans X14).n
  obtain ⟨HD, hHD⟩ : ∃ H, H = (h14.new (.cells Z16 0 none)).put h14.n (.cells (shC pu.1 pu.2) 0 none) := ⟨_, rfl⟩
  have ED : Ext h14 HD := by rw [hHD]; exact ((Ext.refl h14).new _).put (Nat.le_refl _) _
  have nD : HD.n = h14.n + 1 := by rw [hHD]; rfl
  have g34 : HD.ext.get h14.n = some (.cells (shC pu.1 pu.2) 0 none) := by rw [hHD]; simp (disch := first | omega | (simp only [new_n, put_n]; omega) | (repeat first | rw [new_n] | rw [put_n])) only [get_put_same]
  simp -dsimp (maxSteps := 1000000) (disch := first | omega | (simp only [new_n, put_n]; omega) | decide +kernel | (repeat first | rw [new_n] | rw [put_n])) only [wpS, wpT, Nat.reduceEqDiff, Nat.reduceLeDiff, Nat.reduceAdd, zc32, st32, shV_cells, shC_len, shC_all, sh_sp3, ← hHD]
  clear hHD
  refine ⟨wpSteady_one rfl rfl rfl rfl (steady_load rfl (ld_wd g31C) (ld_wd (X13'.kept (by omega) g31C))), ?_⟩
  have XCD := (X13'.trans X14).trans ED
  have g29D := XCD.kept (by omega) g29C
  have g30D := XCD.kept (by omega) g30C
  have g32D := XCD.kept (by omega) g32
  simp -dsimp (maxSteps := 1000000) (disch := first | omega | (simp only [new_n, put_n]; omega) | decide +kernel | (repeat first | rw [new_n] | rw [put_n])) only [wpS, wpT, Nat.reduceAdd]
  have tl := fun fr f22 f24 f26 f33 f35 f29 f30 f32 f34 => detailed_tail (fr := fr) ul vl q1 ee pw qw puw po qo puo (by omega) (by omega) (by omega) (by omega) g29D g30D g32D g34 (by omega) f22 f24 f26 f33 f35 f29 f30 f32 f34
  rw [show restAt bodyDt 18 = .seq (partAt bodyDt 18) (restAt bodyDt 19) from rfl] at tl
  simp only [d_seq] at tl
  refine tl _ ?_ ?_ ?_ ?_ ?_ ?_ ?_ ?_ ?_
  all_goals first | rfl | simp
end
end Go.Id

namespace Go.Proofs.YtnanhedgenokpaaGreat
open Go.ChangeShapes Go.WideShapes Go.ChangeAt Go.RowKit Go.Id
theorem wf_u16 {x:Int} (h:(Lit.int .u16 x).wf=true):0≤x∧x<65536:=by
 simp only[Lit.wf,Bool.and_eq_true,decide_eq_true_eq] at h
 have h1:(0:Int)≤x:=h.1
 have h2:x≤(65535:Int):=h.2
 exact⟨h1,by omega⟩
theorem shV_rel {m:Mp} (n d:Nat):VRel m (shV n d) (.agg (shC n d).toArray):=.plain_mk (plain_shV n d)
set_option maxRecDepth 100000 in
theorem temperDetailed_lifted (os:Os) (started:os.Started) (H:Type) (enc:TypeId×Value→H) :
  ReturnsInHanded {} Tryz.checked os 6 .any (Rows.temperDetailedSpec.pre6 enc Tryz.prog Tryz.f6 Rows.temperDetailedRow.domain false) (Rows.temperDetailedSpec.post enc Tryz.prog Tryz.f6 false true false false):=by
 refine returnsInHanded_of_change (C:=Tryz.checked) Tryz.own started (by kernel_rfl) Tryz.func6
  (ChangeSpec.witness6 (enc:=enc) (C:=Tryz.checked) false ⟨#[],#[.agg #[.int .u8 0,.slice none 0 0,.slice none 0 0,.slice none 0 0,.slice none 0 0,.slice none 0 0,.slice none 0 0],.int .u8 0,.int .u8 0,.int .u8 0,.int .u8 0],[]⟩ 8 (by kernel_rfl) (by kernel_rfl) (by kernel_rfl) (by kernel_rfl)) ?_
 intro W base args ds gs before hval0 hW hcnd _
 have hval : ∀(j:Nat) t v,Tryz.f6.params[j]?=some t→args[j]?=some v→Value.okWide Tryz.prog W .any base t v:=hval0
 have hW':=hW
 obtain⟨p,q,hA0,hV,rfl,hfz,hnd⟩:=hW
 have hA:DataW.TrodAll enc Tryz.prog W 0 (fun _=>true) true Tryz.f6.params.toList args.toList ds p:=hA0
 have hA1:=hA
 rw[Tryz.params6] at hA hval
 obtain⟨a0,r0,d0,ds0,p0,q0,e0,rfl,rfl,t0,h0A⟩:=trodAll_cons hA
 obtain⟨a1,r1,d1,ds1,p1,q1,rfl,rfl,rfl,t1,h1A⟩:=trodAll_cons h0A
 obtain⟨a2,r2,d2,ds2,p2,q2,rfl,rfl,rfl,t2,h2A⟩:=trodAll_cons h1A
 obtain⟨a3,r3,d3,ds3,p3,q3,rfl,rfl,rfl,t3,h3A⟩:=trodAll_cons h2A
 obtain⟨a4,r4,d4,ds4,p4,q4,rfl,rfl,rfl,t4,h4A⟩:=trodAll_cons h3A
 obtain⟨rfl,rfl,rfl⟩:=trodAll_nil h4A
 obtain⟨rfl,rfl⟩:=trodVars_none hV
 obtain rfl:args = #[a0,a1,a2,a3,a4]:=by cases args;simpa using e0
 obtain⟨z0,rfl,_⟩:=okWide_struct u_case (hval 0 _ _ rfl rfl)
 obtain⟨fu0,t0⟩:=t0
 obtain⟨k0,yN0,yS0,yL0,yA0,yR0,yQ0,lN0,lS0,lL0,lA0,lR0,lQ0,g0,kb0,m0,sN0,sS0,sL0,sA0,sR0,sQ0⟩:=case_of (fun _=>none) t0
 obtain rfl:z0 = #[B8 k0,yN0,yS0,yL0,yA0,yR0,yQ0]:=by cases z0;simpa using g0
 obtain⟨xi1,rfl,_,_,w1⟩:=open_int u_u8 (hval 1 _ _ rfl rfl) t1
 have j1:0≤xi1∧xi1<256:=wf_u8 w1
 obtain⟨x1,rfl⟩:=Int.eq_ofNat_of_zero_le j1.1
 have i1:x1<256:=by omega
 obtain⟨xi2,rfl,_,_,w2⟩:=open_int u_u8 (hval 2 _ _ rfl rfl) t2
 have j2:0≤xi2∧xi2<256:=wf_u8 w2
 obtain⟨x2,rfl⟩:=Int.eq_ofNat_of_zero_le j2.1
 have i2:x2<256:=by omega
 obtain⟨xi3,rfl,_,_,w3⟩:=open_int u_u8 (hval 3 _ _ rfl rfl) t3
 have j3:0≤xi3∧xi3<256:=wf_u8 w3
 obtain⟨x3,rfl⟩:=Int.eq_ofNat_of_zero_le j3.1
 have i3:x3<256:=by omega
 obtain⟨xi4,rfl,_,_,w4⟩:=open_int u_u8 (hval 4 _ _ rfl rfl) t4
 have j4:0≤xi4∧xi4<256:=wf_u8 w4
 obtain⟨x4,rfl⟩:=Int.eq_ofNat_of_zero_le j4.1
 have i4:x4<256:=by omega
 have hb:=tell_ok (W:=W) (G:=fun _=>none) (fun b cs h=>by cases h)
 refine(parts_true (tb:=tb34) (nt:=234) (rs:=[.tmp 10]) Tryz.sound (show Sound (E1 Tryz.prog tb34) from sound_T) Tryz.func6 rfl rfl rfl (by simp) (dt0 _ _ _ _ _ _ _ _ _ _ _ _) (dt1 _ _) (detailed_rest (bx:=0) (sN0.keep ((Ext.refl _).new _).keep) (sS0.keep ((Ext.refl _).new _).keep) (sL0.keep ((Ext.refl _).new _).keep) (sA0.keep ((Ext.refl _).new _).keep) sR0.1.cok sQ0.1.cok kb0 i1 i2 i3 i4 (by simp) (get_new_same _ _ rfl) rfl rfl rfl rfl rfl) hb (args':=#[.agg #[B8 k0,yN0,yS0,yL0,yA0,yR0,yQ0],B8 x1,B8 x2,B8 x3,B8 x4]) (.cons (.agg_iff (.cons (.scal rfl) (.cons (trV_rel m0.1) (.cons (trV_rel m0.2.1) (.cons (trV_rel m0.2.2.1) (.cons (trV_rel m0.2.2.2.1) (.cons (trV_rel m0.2.2.2.2.1) (.cons (trV_rel m0.2.2.2.2.2) (.nil _))))))))) (.cons (.scal rfl) (.cons (.scal rfl) (.cons (.scal rfl) (.cons (.scal rfl) (.nil _))))))).mono fun e W' ⟨he,hk⟩=>?_
 subst he
 refine⟨_,rfl,post_of_below (pa:=p0 ++ (p1 ++ (p2 ++ (p3 ++ (p4 ++ []))))) (pv:=[]) hW' (fun _ _ _=>trodAll_mk1 (shut_bool Tryz.underlying4 _)) (fun sp hs=>?_) (fun _ _=>rfl) hk⟩
 exact trodAll_stays Tryz.kids Tryz.pos hk hA1 (fun t ht=>by
  rw[Tryz.params6] at ht
  simp at ht
  rcases ht with rfl|rfl|rfl|rfl|rfl<;>exact of_decide_eq_true (by kernel_rfl)) (fun x hx=>hs x (by simpa using hx))
theorem temperDetailed_row:Rows.TemperDetailedSaid :=
 OpenClaim.holds_of_wide 6 Tryz.f6 rfl rfl rfl rfl rfl rfl rfl ⟨rfl,rfl,rfl,rfl,rfl⟩ rfl rfl rfl rfl rfl (by kernel_rfl) Tryz.func6 (by kernel_rfl)
  (of_decide_eq_true (by kernel_rfl)) (by unfold Func.isWrapper;first|(rw[if_pos (by decide +kernel)];kernel_rfl)|(rw[if_neg (by decide +kernel)];exact⟨rfl,rfl⟩))
  (fun os started H enc _=>temperDetailed_lifted os started H enc)
#print axioms temperDetailed_row
end Go.Proofs.YtnanhedgenokpaaGreat
