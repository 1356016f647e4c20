/-
  Weakest preconditions over the ideal machine, eleventh part: maps with keys that are numbers or arrays of numbers; loops over functions. Contracts: the subsets of a set, and the nodes of a set, one after the other. Contracts: graphs. What Check says of any graph. Contracts: the length of a number, and what is wrong with a graph and a set. Contracts: graphs. The neighbours of each node; connected sets. Connected sets: plain numbers as sets of bits. Contracts: graphs. Is a set connected?
-/
import Derived.Test.YtcmfdbjgimekbaaDoorEnumeratePartsAg
import Derived.Test.YtcmfdbjgimekbaaDoorEnumeratePartsAj
import Derived.Test.YtcmfdbjgimekbaaDoorEnumeratePartsAh
set_option linter.unusedVariables false
set_option linter.unusedSimpArgs false
set_option linter.defProp false
set_option linter.deprecated false
/-! Weakest preconditions over the ideal machine, eleventh part: maps with keys that are numbers or arrays of numbers; loops over functions. -/
namespace Go.Id
open Go

/-- A map's entries, read as a list of pairs. -/
abbrev MapL := List (Value × Value)
/-- What a key is mapped to. -/
noncomputable def asc : List (Value × Value) → Value → Option Value
  | [], _ => none
  | e :: l, k => @ite _ (e.1 = k) (Classical.propDecidable _) (some e.2) (asc l k)
noncomputable def place : List (Value × Value) → Value → Option Nat
  | [], _ => none
  | e :: l, k => @ite _ (e.1 = k) (Classical.propDecidable _) (some 0) ((place l k).map (· + 1))
/-- A key set. -/
noncomputable def upd (l : MapL) (k v : Value) : MapL := match place l k with
  | none => l ++ [(k, v)]
  | some i => l.set i (k, v)
theorem place_none : ∀ {l : MapL} {k : Value}, place l k = none → asc l k = none
  | [], _, _ => rfl
  | e :: l, k, h => by
    unfold place at h
    unfold asc
    split at h
    · cases h
    · rename_i hne
      rw [if_neg hne]
      exact place_none (by simpa using h)
theorem place_some : ∀ {l : MapL} {k : Value} {i : Nat}, place l k = some i → ∃ v, l[i]? = some (k, v) ∧ asc l k = some v
  | [], _, _, h => by cases h
  | e :: l, k, i, h => by
    unfold place at h
    unfold asc
    split at h
    · rename_i he
      cases h
      exact ⟨e.2, by rw [← he]; rfl, if_pos he⟩
    · rename_i hne
      rw [if_neg hne]
      simp only [Option.map_eq_some_iff] at h
      obtain ⟨j, hj, rfl⟩ := h
      obtain ⟨v, h1, h2⟩ := place_some hj
      exact ⟨v, by simpa using h1, h2⟩
theorem asc_append {l m : MapL} {k : Value} : asc (l ++ m) k = match asc l k with | some v => some v | none => asc m k := by
  induction l with
  | nil => rfl
  | cons e l ih =>
    simp only [List.cons_append, asc]
    split <;> simp [*]
theorem asc_set : ∀ {l : MapL} {k v : Value} {i : Nat}, place l k = some i → ∀ k', asc (l.set i (k, v)) k' = @ite _ (k' = k) (Classical.propDecidable _) (some v) (asc l k')
  | [], _, _, _, h => by cases h
  | e :: l, k, v, i, h => by
    intro k'
    unfold place at h
    split at h
    · rename_i he
      cases h
      simp only [List.set_cons_zero, asc]
      by_cases h1 : k = k'
      · rw [if_pos h1, if_pos h1.symm]
      · rw [if_neg h1, if_neg (fun x => h1 x.symm), if_neg (by rw [he]; exact h1)]
    · rename_i hne
      simp only [Option.map_eq_some_iff] at h
      obtain ⟨j, hj, rfl⟩ := h
      simp only [List.set_cons_succ, asc]
      rw [asc_set hj k']
      by_cases h1 : k' = k
      · simp only [h1, if_true, hne, if_false]
      · simp only [h1, if_false]
theorem asc_upd (l : MapL) (k v k' : Value) : asc (upd l k v) k' = @ite _ (k' = k) (Classical.propDecidable _) (some v) (asc l k') := by
  unfold upd
  split
  · rename_i h
    rw [asc_append]
    by_cases h1 : k' = k
    · rw [if_pos h1, h1, place_none h]; simp [asc]
    · rw [if_neg h1]
      cases hh : asc l k' with
      | some w => rfl
      | none =>
        have h2 : ¬ k = k' := fun x => h1 x.symm
        simp [asc, h2]
  · rename_i i h; exact asc_set h k'
theorem asc_upd_same (l : MapL) (k v : Value) : asc (upd l k v) k = some v := by rw [asc_upd, if_pos rfl]
theorem asc_upd_ne (l : MapL) {k k' : Value} (v : Value) (h : k' ≠ k) : asc (upd l k v) k' = asc l k' := by rw [asc_upd, if_neg h]
theorem mem_upd {l : MapL} {k v : Value} {e : Value × Value} (h : e ∈ upd l k v) : e = (k, v) ∨ e ∈ l := by
  unfold upd at h
  split at h
  · rw [List.mem_append] at h
    rcases h with h | h
    · exact .inr h
    · exact .inl (by simpa using h)
  · rcases List.mem_or_eq_of_mem_set h with h | h
    · exact .inr h
    · exact .inl h

section
variable {P : Program}
/-- Keys of a type that are found by looking. -/
def KeyT (P : Program) (kt : TypeId) (ok : Value → Prop) : Prop :=
  (∀ k, ok k → plain k = true ∧ Instr.sameBits 10000 k k = true ∧ ∀ b, pureRun P (Instr.checkKey b 10000 kt k) = some ()) ∧
    ∀ (k : Value) (l : MapL), ok k → (∀ e ∈ l, ok e.1) → (pureRun P (Instr.findKey kt k (keyEntries l))).map (fun r => r.map (·.1)) = some (place l k)
theorem findK_eq {kt : TypeId} {ok : Value → Prop} (hK : KeyT P kt ok) {k : Value} {l : MapL} (hk : ok k) (hl : ∀ e ∈ l, ok e.1) : findK P kt k l = some (place l k) := by
  have h1 := hK.2 k l hk hl
  unfold findK
  rw [(hK.1 k hk).1, cond_true, (hK.1 k hk).2.2 l.isEmpty]
  cases hp : pureRun P (Instr.findKey kt k (keyEntries l)) with
  | none => rw [hp] at h1; cases h1
  | some r => rw [hp] at h1; simpa using h1
def MapT (P : Program) (mt kt : TypeId) (z : Value) : Prop := ∃ et, P.underlying mt = some (.map kt et) ∧ zeroT P et = some z ∧ plain z = true
theorem lookup_eq {mt kt : TypeId} {z : Value} {ok : Value → Prop} (hM : MapT P mt kt z) (hK : KeyT P kt ok) {h : IH} {m : Nat} {l : MapL} (hg : h.ext.get m = some (.map l)) {k : Value} (hk : ok k) (hl : ∀ e ∈ l, ok e.1) :
    lookup P h mt (.map (some (2 * m))) k true = some (match asc l k with | some v => .tuple #[v, .bool true] | none => .tuple #[z, .bool false]) := by
  obtain ⟨et, hu, hz, hp⟩ := hM
  have hm : entriesOf h (.map (some (2 * m))) = some l := by
    have h1 : (2 * m % 2 == 1) = false := by simp
    have h2 : 2 * m / 2 = m := by omega
    simp [entriesOf, mapOf, h1, h2, hg]
  simp only [lookup, hu, hm, findK_eq hK hk hl]
  cases hp2 : place l k with
  | none => simp only [place_none hp2, hz, hp, cond_true]
  | some i =>
    obtain ⟨v, h1, h2⟩ := place_some hp2
    simp only [h1, h2, Option.map_some, cond_true]
theorem lookup_eq1 {mt kt : TypeId} {z : Value} {ok : Value → Prop} (hM : MapT P mt kt z) (hK : KeyT P kt ok) {h : IH} {m : Nat} {l : MapL} (hg : h.ext.get m = some (.map l)) {k : Value} (hk : ok k) (hl : ∀ e ∈ l, ok e.1) :
    lookup P h mt (.map (some (2 * m))) k false = some ((asc l k).getD z) := by
  obtain ⟨et, hu, hz, hp⟩ := hM
  have hm : entriesOf h (.map (some (2 * m))) = some l := by
    have h1 : (2 * m % 2 == 1) = false := by simp
    have h2 : 2 * m / 2 = m := by omega
    simp [entriesOf, mapOf, h1, h2, hg]
  simp only [lookup, hu, hm, findK_eq hK hk hl]
  cases hp2 : place l k with
  | none => simp only [place_none hp2, hz, hp, cond_true, cond_false, Option.getD]
  | some i =>
    obtain ⟨v, h1, h2⟩ := place_some hp2
    simp only [h1, h2, Option.map_some, cond_false, Option.getD]
theorem mapUpdate_eq {mt kt : TypeId} {z : Value} {ok : Value → Prop} (hM : MapT P mt kt z) (hK : KeyT P kt ok) {h : IH} {m : Nat} {l : MapL} (hg : h.ext.get m = some (.map l)) {k : Value} (hk : ok k) (hl : ∀ e ∈ l, ok e.1) (v : Value) :
    mapUpdate P h mt (.map (some (2 * m))) k v = some (h.put m (.map (upd l k v))) := by
  obtain ⟨et, hu, hz, hp⟩ := hM
  have h1 : (2 * m % 2 == 1) = false := by simp
  have h2 : 2 * m / 2 = m := by omega
  have hm : mapOf h (2 * m) = some l := by simp [mapOf, h1, h2, hg]
  simp only [mapUpdate, hu, hm, findK_eq hK hk hl, (hK.1 k hk).2.2 false, okUnit, cond_true, h2]
  cases hp2 : place l k with
  | none => simp only [upd, hp2]; rfl
  | some i =>
    obtain ⟨w, h1, h2⟩ := place_some hp2
    simp only [h1, (hK.1 k hk).2.1, cond_true, upd, hp2]; rfl

/-! ### Keys that are numbers -/
theorem findNow_int {kt : TypeId} {kd : IntKind} (a : Int) : ∀ (l : MapL) (i : Nat), (∀ e ∈ l, ∃ b, e.1 = .int kd b) → (Instr.findNow (.int kd) (.int kd a) (keyEntries l) i).map (fun r => r.map (·.1)) = some ((place l (.int kd a)).map (· + i))
  | [], _, _ => rfl
  | e :: l, i, h => by
    obtain ⟨b, hb⟩ := h e (by simp)
    have e1 : keyEntries (e :: l) = { key := e.1, val := .nilIface, born := 0 } :: keyEntries l := rfl
    rw [e1]
    unfold Instr.findNow
    simp only [Instr.sameNow, hb, if_true]
    unfold place
    by_cases h1 : a = b
    · have h2 : (a == b) = true := by simpa using h1
      rw [h2]
      simp [h1, hb]
    · have h2 : (a == b) = false := by simpa using h1
      rw [h2]
      have h3 : ¬ e.1 = .int kd a := by rw [hb]; intro hh; cases hh; exact h1 rfl
      rw [if_neg h3]
      simp only
      rw [findNow_int (kt := kt) a l (i + 1) fun e he => h e (by simp [he])]
      cases place l (.int kd a) with
      | none => rfl
      | some j => simp; omega
theorem pr_checkKey_int {kt : TypeId} {kd : IntKind} (hu : P.underlying kt = some (.int kd)) (b : Bool) (a : Int) (n : Nat) : pureRun P (Instr.checkKey b (n + 1) kt (.int kd a)) = some () := by
  unfold Instr.checkKey
  rw [pr_bind (pr_underlying hu)]
  rfl
theorem keyT_int {kt : TypeId} {kd : IntKind} (hu : P.underlying kt = some (.int kd)) : KeyT P kt fun k => ∃ a, k = .int kd a := by
  refine ⟨?_, ?_⟩
  · rintro k ⟨a, rfl⟩
    exact ⟨rfl, by simp [Instr.sameBits], fun b => pr_checkKey_int hu b a 9999⟩
  · rintro k l ⟨a, rfl⟩ hl
    have h1 := findNow_int (kt := kt) (kd := kd) a l 0 hl
    unfold Instr.findKey
    rw [pr_bind (pr_underlying hu)]
    cases hf : Instr.findNow (.int kd) (.int kd a) (keyEntries l) 0 with
    | none => rw [hf] at h1; cases h1
    | some r =>
      rw [hf] at h1
      simp only
      rw [pr_pure]
      simpa using h1

/-! ### Keys that are arrays of numbers -/
theorem pr_loopUnit {n : Nat} (body : Nat → PUnit → Sem (ForInStep PUnit)) (hb : ∀ i, i < n → ∀ r, pureRun P (body i r) = some (.yield ⟨⟩)) : ∀ is : List Nat, (∀ i ∈ is, i < n) → pureRun P (forIn is PUnit.unit body) = some ⟨⟩ := by
  intro is
  induction is with
  | nil => intro _; rfl
  | cons i is ih =>
    intro hi
    rw [List.forIn_cons, pr_bind (hb i (hi i (by simp)) _)]
    exact ih fun j hj => hi j (by simp [hj])
theorem pr_checkKey_arr {kt e : TypeId} {n : Nat} {kd : IntKind} (hT : P.underlying kt = some (.array n e)) (he : P.underlying e = some (.int kd)) (hs : sizeT P e = some 1) (b : Bool) (xs : List Int) (hx : xs.length = n) (d : Nat) :
    pureRun P (Instr.checkKey b (d + 2) kt (.agg (xs.map (.int kd)).toArray)) = some () := by
  unfold Instr.checkKey
  rw [pr_bind (pr_underlying hT)]
  simp only [Std.Legacy.Range.forIn_eq_forIn_range', Std.Legacy.Range.size, Nat.sub_zero, Nat.add_one_sub_one, Nat.div_one]
  rw [pr_bind (pr_loopUnit (n := n) _ (fun i hi r => ?_) _ (fun i hi => by rw [List.mem_range'_1] at hi; omega))]
  · rfl
  · have hxi : (xs.map (Value.int kd)).toArray[i * 1]? = some (.int kd (xs[i]'(by omega))) := by simp [hx, hi]
    rw [pr_bind (pr_sizeOf hs), pr_bind (pr_part he hxi), pr_bind (pr_checkKey_int he b _ d)]
    rfl
theorem map_int_inj {kd : IntKind} : ∀ {a b : List Int}, a.map (Value.int kd) = b.map (Value.int kd) → a = b
  | [], [], _ => rfl
  | [], _ :: _, h => by cases h
  | _ :: _, [], h => by cases h
  | x :: a, y :: b, h => by
    simp only [List.map_cons, List.cons.injEq, Value.int.injEq, true_and] at h
    rw [h.1, map_int_inj h.2]
theorem findAsking_arr {kt e : TypeId} {n : Nat} {kd : IntKind} (hT : P.underlying kt = some (.array n e)) (he : P.underlying e = some (.int kd)) (hs : sizeT P e = some 1) (xs : List Int) (hx : xs.length = n) : ∀ (l : MapL) (i : Nat), (∀ e ∈ l, ∃ ys : List Int, ys.length = n ∧ e.1 = .agg (ys.map (.int kd)).toArray) →
    (pureRun P (Instr.findAsking kt (.agg (xs.map (.int kd)).toArray) (keyEntries l) i)).map (fun r => r.map (·.1)) = some ((place l (.agg (xs.map (.int kd)).toArray)).map (· + i))
  | [], _, _ => rfl
  | e0 :: l, i, h => by
    obtain ⟨ys, hy, hb⟩ := h e0 (by simp)
    have e1 : keyEntries (e0 :: l) = { key := e0.1, val := .nilIface, born := 0 } :: keyEntries l := rfl
    rw [e1]
    unfold Instr.findAsking
    have h2 : pureRun P (Op.equal kt (.agg (xs.map (.int kd)).toArray) (.agg (ys.map (.int kd)).toArray)) = some (decide (xs = ys)) := pr_equal_arr hT he hs 9998 xs ys hx hy
    simp only [hb]
    rw [pr_bind h2]
    unfold place
    by_cases h1 : xs = ys
    · simp only [h1, decide_true, if_true, hb]
      rw [pr_pure]
      simp
    · have h3 : ¬ e0.1 = .agg (xs.map (.int kd)).toArray := by
        rw [hb]; intro hh
        have h4 : ys.map (Value.int kd) = xs.map (Value.int kd) := by simpa using hh
        exact h1 (map_int_inj h4).symm
      rw [if_neg h3]
      simp only [h1, decide_false, Bool.false_eq_true, if_false]
      rw [findAsking_arr hT he hs xs hx l (i + 1) fun e he => h e (by simp [he])]
      cases place l (.agg (xs.map (.int kd)).toArray) with
      | none => rfl
      | some j => simp; omega
theorem keyT_arr {kt e : TypeId} {n : Nat} {kd : IntKind} (hT : P.underlying kt = some (.array n e)) (he : P.underlying e = some (.int kd)) (hs : sizeT P e = some 1) : KeyT P kt fun k => ∃ ys : List Int, ys.length = n ∧ k = .agg (ys.map (.int kd)).toArray := by
  refine ⟨?_, ?_⟩
  · rintro k ⟨xs, hx, rfl⟩
    refine ⟨by simp [plain, scal], ?_, fun b => pr_checkKey_arr hT he hs b xs hx 9998⟩
    unfold Instr.sameBits
    have : ∀ l : List Int, (((l.map (Value.int kd)).zip (l.map (Value.int kd))).all fun p => Instr.sameBits 9999 p.1 p.2) = true := by
      intro l
      induction l with
      | nil => rfl
      | cons a l ih =>
        rw [List.map_cons, List.zip_cons_cons, List.all_cons, ih]
        simp [Instr.sameBits]
    simp only [beq_self_eq_true, Bool.true_and]
    exact this xs
  · rintro k l ⟨xs, hx, rfl⟩ hl
    unfold Instr.findKey
    rw [pr_bind (pr_underlying hT)]
    cases l with
    | nil => rfl
    | cons e0 l =>
      have hf : Instr.findNow (.array n e) (.agg (xs.map (.int kd)).toArray) (keyEntries (e0 :: l)) 0 = none := rfl
      rw [hf]
      simp only
      have h1 := findAsking_arr hT he hs xs hx (e0 :: l) 0 hl
      rw [h1]
      cases place (e0 :: l) (.agg (xs.map (.int kd)).toArray) <;> rfl
end

/-! ### Loops over functions -/
/-- The loop's record in its rounds. -/
def busyL (r : ILoop) : ILoop := { r with state := .busy }
/-- The end of a round. -/
@[reducible] def bodyK (k : Nat) (r : ILoop) (K : Value → IH → Prop) (e : IExit) (_ : Fr) (h : IH) : Prop :=
  e = .normal ∧ h.ext.get k = some (.loop (busyL r)) ∧ K (.bool true) (h.put k (.loop r))
theorem get_loop {h : IH} {k : Nat} {r : ILoop} (hg : h.ext.get k = some (.loop r)) : loopOf h k = some r := by simp [loopOf, hg]
theorem wv_yield1 {P : Program} {k : Nat} {r : ILoop} {id : Nat} {d p : Tmp} {ty : TypeId} {pos : String} {af : Array Edge} (hst : r.state = .ready) (hpe : r.pending = none) (hps : r.params = [p])
    (ha : r.assign = .region id #[⟨some d, .assign (.tmp p), ty, pos, af, none⟩] false) (hd : d < r.nt) (hp : p < r.nt) (v : Value) (h : IH) (K : Value → IH → Prop) (hg : h.ext.get k = some (.loop r))
    (w : wpC P r.fn r.nt (some k) r.body ((d, v) :: (p, v) :: r.fr) (h.put k (.loop (busyL r))) (bodyK k r K)) : WV P (.func (.yield (2 * k)) #[] #[]) [v] h K := by
  obtain ⟨⟨e, fr, h1⟩, ⟨N, hN⟩, rfl, hb, hk⟩ := wpC_sound w
  refine ⟨(.bool true, h1.put k (.loop r)), ⟨N + 1, fun n hn => ?_⟩, hk⟩
  obtain ⟨n, rfl⟩ : ∃ m, n = m + 1 := ⟨n - 1, by omega⟩
  have h2 := hN n (by omega)
  have hp' : Nat.blt p r.nt = true := by simp only [Nat.blt, Nat.ble_eq]; exact hp
  have hd' : Nat.blt d r.nt = true := by simp only [Nat.blt, Nat.ble_eq]; exact hd
  have e1 : (2 * k % 2 == 0) = true := by simp
  have e2 : 2 * k / 2 = k := by omega
  have e3 : putParams r.nt r.params [v] r.fr = some ((p, v) :: r.fr) := by
    rw [hps]; simp [putParams, fput, hp']
  have e4 : evC (E0 P) (callV (E0 P) n) r.fn r.nt (some k) n r.assign ((p, v) :: r.fr) h = some (.normal, (d, v) :: (p, v) :: r.fr, h) := by
    rw [ha]
    simp [evC, headFr0, runOps, stepOp, wantedI, runOp, iop, opd, fget, fput, hd']
  have e5 : (r.state == LoopState.ready) = true := by rw [hst]; rfl
  have e6 : ({ h with ext := h.ext.set k (.loop { r with state := .busy }) } : IH) = h.put k (.loop (busyL r)) := rfl
  show (bif 2 * k % 2 == 0 then callYield (E0 P) (callV (E0 P) n) n (2 * k / 2) ((#[] : Array Value).toList ++ [v]) h else none) = _
  rw [e1, cond_true, e2]
  simp only at h2
  simp only [callYield, get_loop hg, e3, e4, e5, cond_true, e6, h2, get_loop hb, List.nil_append]
  have e7 : ({ busyL r with state := .ready, pending := none } : ILoop) = r := by
    cases r; simp only at hst hpe; subst hst; subst hpe; rfl
  rw [e7]; rfl
/-- A loop over a function whose rounds all end well. -/
theorem range1 {P : Program} {fn : FuncId} {nt : Nat} {rd : Option Nat} {f : Operand} {id : Nat} {d p : Tmp} {ty : TypeId} {pos : String} {af : Array Edge} {body : Code} {fr : Fr} {h : IH} {Q : IExit → Fr → IH → Prop} {fv : Value} (hf : opd fr f = some fv) (hrd : roundOK h rd = true) (hd : d < nt) (hp : p < nt)
    (w : ∀ (r : ILoop) (y : Value), (∀ v h1 K, h1.ext.get h.n = some (.loop r) → Do (wpC P fn nt (some h.n) body ((d, v) :: (p, v) :: fr) (h1.put h.n (.loop (busyL r)))) (bodyK h.n r K) nx → WV P y [v] h1 K) →
      WV P fv [y] (h.new (.loop r)) fun _ h1 => h1.ext.get h.n = some (.loop r) ∧ Q .normal fr (h1.put h.n .dead)) :
    Do (WRange P fn nt rd f #[p] (.region id #[⟨some d, .assign (.tmp p), ty, pos, af, none⟩] false) body fr h) Q nx := by
  have w1 := w { state := .ready, pending := none, fn, nt, fr, params := [p], assign := .region id #[⟨some d, .assign (.tmp p), ty, pos, af, none⟩] false, body } (.func (.yield (2 * h.n)) #[] #[])
    fun v h1 K hg w => wv_yield1 (r := { state := .ready, pending := none, fn, nt, fr, params := [p], assign := .region id #[⟨some d, .assign (.tmp p), ty, pos, af, none⟩] false, body }) rfl rfl rfl rfl hd hp v h1 K hg w
  obtain ⟨⟨v, h1⟩, ⟨N, hN⟩, hg, hq⟩ := w1
  refine ⟨(.normal, fr, h1.put h.n .dead), ⟨N, fun n hn => ?_⟩, hq⟩
  have h2 := hN n hn
  simp only at h2
  simp only [rangeFn, hrd, cond_true, hf]
  show (match callV (E0 P) n fv [_] _ with | none => none | some (_, h1) => _) = _
  rw [h2]
  simp only [get_loop hg]
  rfl

/-! ### Everything but one block -/
structure Mem (m : Nat) (h h' : IH) : Prop where
  n : h.n ≤ h'.n
  base : h'.base = h.base
  get : ∀ k, k < h.n → k ≠ m → h'.ext.get k = h.ext.get k
  fams : ∀ f, f < h.n → h'.fams.get f = h.fams.get f
theorem Ext.mem {h h' : IH} (e : Ext h h') (m : Nat) : Mem m h h' := ⟨e.n, e.base, fun k hk _ => e.get k hk, e.fams⟩
theorem Mem.refl (m : Nat) (h : IH) : Mem m h h := (Ext.refl h).mem m
theorem Mem.trans {m : Nat} {a b c : IH} (x : Mem m a b) (y : Mem m b c) : Mem m a c :=
  ⟨Nat.le_trans x.n y.n, y.base.trans x.base, fun k hk hm => (y.get k (Nat.lt_of_lt_of_le hk x.n) hm).trans (x.get k hk hm), fun f hf => (y.fams f (Nat.lt_of_lt_of_le hf x.n)).trans (x.fams f hf)⟩
theorem Mem.ext {m : Nat} {a h h' : IH} (e : Ext a h) (hm : a.n ≤ m) (x : Mem m h h') : Ext a h' :=
  ⟨Nat.le_trans e.n x.n, x.base.trans e.base, fun k hk => (x.get k (Nat.lt_of_lt_of_le hk e.n) (by omega)).trans (e.get k hk), fun f hf => (x.fams f (Nat.lt_of_lt_of_le hf e.n)).trans (e.fams f hf)⟩
theorem Mem.new {m : Nat} {a b : IH} (x : Mem m a b) (o : IObj) : Mem m a (b.new o) :=
  ⟨Nat.le_trans x.n (Nat.le_succ _), x.base, fun k hk hm => by rw [get_new, if_neg (by have := x.n; omega)]; exact x.get k hk hm, x.fams⟩
theorem Mem.put {m : Nat} {a b : IH} (x : Mem m a b) {k : Nat} (hk : a.n ≤ k ∨ k = m) (o : IObj) : Mem m a (b.put k o) :=
  ⟨x.n, x.base, fun j hj hm => by rw [get_put, if_neg (by omega)]; exact x.get j hj hm, x.fams⟩
theorem Mem.cells {m : Nat} {a b : IH} (x : Mem m a b) {k : Nat} (hk : k < a.n) (hm : k ≠ m) : b.cells k = a.cells k := by simp [IH.cells, x.get k hk hm]
theorem Mem.row {m : Nat} {a b : IH} (x : Mem m a b) {i : Nat} (hi : i % 2 = 1 ∨ (i < 2 * a.n ∧ i / 2 ≠ m)) : b.row i = a.row i := by
  simp only [IH.row, x.base, cond_eq_ite, beq_iff_eq]
  by_cases h1 : i % 2 = 1
  · rw [if_pos h1, if_pos h1]
  · rw [if_neg h1, if_neg h1, x.get _ (by omega) (by omega)]
end Go.Id

/-! Contracts: the subsets of a set, and the nodes of a set, one after the other. -/
namespace Go.Id
open Go

theorem subsets_ok {h : IH} (m : Nat) : WV Proofs.Tryd.prog (.func (.func 86) #[] #[]) [K64 m] h fun r h' => r = .func (.func 112) #[] #[ptr (2 * h.n) 0] ∧ h' = h.new (.cells [K64 m] 0 none) := by
  refine enter (nt := 4) (rs := [.tmp 2]) Proofs.Tryd.func86 rfl rfl rfl (by simp) ?_
  simp -dsimp (maxSteps := 1000000) (disch := first | omega | (simp only [new_n, put_n]; omega) | decide +kernel | (repeat first | rw [new_n] | rw [put_n])) only [wpS, wpT, Nat.reduceEqDiff, reduceIte, Nat.reduceLT, Nat.reduceLeDiff, Nat.reduceAdd, Nat.reduceMul, Nat.reduceBEq, Int.reduceToNat]
theorem nodes_ok {h : IH} (m : Nat) : WV Proofs.Tryd.prog (.func (.func 68) #[] #[]) [K64 m] h fun r h' => r = .func (.func 98) #[] #[ptr (2 * h.n) 0] ∧ h' = h.new (.cells [K64 m] 0 none) := by
  refine enter (nt := 4) (rs := [.tmp 2]) Proofs.Tryd.func68 rfl rfl rfl (by simp) ?_
  simp -dsimp (maxSteps := 1000000) (disch := first | omega | (simp only [new_n, put_n]; omega) | decide +kernel | (repeat first | rw [new_n] | rw [put_n])) only [wpS, wpT, Nat.reduceEqDiff, reduceIte, Nat.reduceLT, Nat.reduceLeDiff, Nat.reduceAdd, Nat.reduceMul, Nat.reduceBEq, Int.reduceToNat]
theorem subsets1_ok {h : IH} {y : Value} (b m : Nat) (hm : m < 18446744073709551616) (J : Nat → IH → Prop) (D : IH → Prop) (hJ : ∀ s h, J s h → h.row (2 * b) = some [K64 m]) (h0 : J m h)
    (step : ∀ s h, s ≤ m → J s h → WV Proofs.Tryd.prog y [K64 s] h fun r h' => r = .bool true ∧ (s = 0 → D h') ∧ (0 < s → J (s - 1 &&& m) h')) :
    WV Proofs.Tryd.prog (.func (.func 112) #[] #[ptr (2 * b) 0]) [y] h fun _ h' => D h' := by
  refine enter (nt := 17) (rs := []) Proofs.Tryd.func112 rfl rfl rfl (by simp) ?_
  simp -dsimp (maxSteps := 1000000) (disch := first | omega | (simp only [new_n, put_n]; omega) | decide +kernel | (repeat first | rw [new_n] | rw [put_n])) only [wpS, wpT, Nat.reduceEqDiff, reduceIte, Nat.reduceLT, Nat.reduceLeDiff, Nat.reduceAdd, Nat.reduceMul, Nat.reduceBEq, Int.reduceToNat, ld47, hJ _ _ h0]
  refine loop (fun d fr h1 => d ≤ m ∧ J d h1 ∧ fget fr 0 = some y ∧ fget fr 1 = some (ptr (2 * b) 0) ∧ fget fr 3 = some (K64 d)) m ⟨Nat.le_refl _, h0, by simp, by simp, by simp⟩ ?_
  rintro d fr h1 ⟨hd, hJ1, f0, f1, f3⟩
  simp -dsimp (maxSteps := 1000000) (disch := first | omega | (simp only [new_n, put_n]; omega) | decide +kernel | (repeat first | rw [new_n] | rw [put_n])) only [wpS, wpT, Nat.reduceEqDiff, reduceIte, Nat.reduceLT, Nat.reduceLeDiff, Nat.reduceAdd, Nat.reduceMul, Nat.reduceBEq, Int.reduceToNat, ld47, f0, f1, f3]
  refine call (step d h1 hd hJ1) ?_
  rintro r h2 ⟨rfl, hz, hs⟩
  simp -dsimp (maxSteps := 1000000) (disch := first | omega | (simp only [new_n, put_n]; omega) | decide +kernel | (repeat first | rw [new_n] | rw [put_n])) only [wpS, wpT, Nat.reduceEqDiff, reduceIte, Nat.reduceLT, Nat.reduceLeDiff, Nat.reduceAdd, Nat.reduceMul, Nat.reduceBEq, Int.reduceToNat, ld47, f0, f1, f3]
  refine bq_intro ?_ ?_ <;> intro hc
  · simp at hc
    simp -dsimp (maxSteps := 1000000) (disch := first | omega | (simp only [new_n, put_n]; omega) | decide +kernel | (repeat first | rw [new_n] | rw [put_n])) only [wpS, wpT, Nat.reduceEqDiff, reduceIte, Nat.reduceLT, Nat.reduceLeDiff, Nat.reduceAdd, Nat.reduceMul, Nat.reduceBEq, Int.reduceToNat, ld47, f0, f1, f3]
    exact hz hc
  · simp at hc
    have hJ2 := hs (by omega)
    have hle : d - 1 &&& m ≤ d - 1 := Nat.and_le_left
    simp -dsimp (maxSteps := 1000000) (disch := first | omega | (simp only [new_n, put_n]; omega) | decide +kernel | (repeat first | rw [new_n] | rw [put_n])) only [wpS, wpT, Nat.reduceEqDiff, reduceIte, Nat.reduceLT, Nat.reduceLeDiff, Nat.reduceAdd, Nat.reduceMul, Nat.reduceBEq, Int.reduceToNat, ld47, f0, f1, f3, hJ _ _ hJ2]
    exact ⟨d - 1 &&& m, by omega, by omega, hJ2, by simp [f0], by simp [f1], by simp⟩
theorem nodes1_ok {h : IH} {y : Value} (b : Nat) (J : Nat → IH → Prop) (D : IH → Prop) (hJ : ∀ s h, J s h → s < 18446744073709551616 ∧ BaseT h ∧ h.ext.get b = some (.cells [K64 s] 0 none)) (hD : ∀ h, J 0 h → D h) (m : Nat) (h0 : J m h)
    (step : ∀ s k h, Low s k → k < 64 → J s h → WV Proofs.Tryd.prog y [KN k] h fun r h' => r = .bool true ∧ h'.ext.get b = some (.cells [K64 s] 0 none) ∧ J (s &&& (s - 1)) (h'.put b (.cells [K64 (s &&& (s - 1))] 0 none))) :
    WV Proofs.Tryd.prog (.func (.func 98) #[] #[ptr (2 * b) 0]) [y] h fun _ h' => D h' := by
  refine enter (nt := 14) (rs := []) Proofs.Tryd.func98 rfl rfl rfl (by simp) ?_
  simp -dsimp (maxSteps := 1000000) (disch := first | omega | (simp only [new_n, put_n]; omega) | decide +kernel | (repeat first | rw [new_n] | rw [put_n])) only [wpS, wpT, Nat.reduceEqDiff, reduceIte, Nat.reduceLT, Nat.reduceLeDiff, Nat.reduceAdd, Nat.reduceMul, Nat.reduceBEq, Int.reduceToNat, ld47, st47]
  refine loop (fun d fr h1 => J d h1 ∧ fget fr 0 = some y ∧ fget fr 1 = some (ptr (2 * b) 0)) m ⟨h0, by simp, by simp⟩ ?_
  rintro d fr h1 ⟨hJ1, f0, f1⟩
  obtain ⟨hd, hB, hg⟩ := hJ _ _ hJ1
  have hr : h1.row (2 * b) = some [K64 d] := by rw [row_even]; simp [IH.cells, hg]
  simp -dsimp (maxSteps := 1000000) (disch := first | omega | (simp only [new_n, put_n]; omega) | decide +kernel | (repeat first | rw [new_n] | rw [put_n])) only [wpS, wpT, Nat.reduceEqDiff, reduceIte, Nat.reduceLT, Nat.reduceLeDiff, Nat.reduceAdd, Nat.reduceMul, Nat.reduceBEq, Int.reduceToNat, ld47, st47, f0, f1, hr]
  refine bq_intro ?_ ?_ <;> intro hc
  · simp at hc
    simp -dsimp (maxSteps := 1000000) (disch := first | omega | (simp only [new_n, put_n]; omega) | decide +kernel | (repeat first | rw [new_n] | rw [put_n])) only [wpS, wpT, Nat.reduceEqDiff, reduceIte, Nat.reduceLT, Nat.reduceLeDiff, Nat.reduceAdd, Nat.reduceMul, Nat.reduceBEq, Int.reduceToNat, ld47, st47, f0, f1, hr]
    refine call (tz64_ok hB d (by omega) hd) ?_
    rintro _ _ ⟨rfl, k, rfl, hlow, hk⟩
    simp -dsimp (maxSteps := 1000000) (disch := first | omega | (simp only [new_n, put_n]; omega) | decide +kernel | (repeat first | rw [new_n] | rw [put_n])) only [wpS, wpT, Nat.reduceEqDiff, reduceIte, Nat.reduceLT, Nat.reduceLeDiff, Nat.reduceAdd, Nat.reduceMul, Nat.reduceBEq, Int.reduceToNat, ld47, st47, f0, f1, hr]
    refine call (step d k _ hlow hk hJ1) ?_
    rintro r h2 ⟨rfl, hg2, hJ2⟩
    have hr2 : h2.row (2 * b) = some [K64 d] := by rw [row_even]; simp [IH.cells, hg2]
    have hle : d &&& (d - 1) ≤ d - 1 := Nat.and_le_right
    have e1 : ((d : Int) - 1).toNat = d - 1 := by omega
    simp -dsimp (maxSteps := 1000000) (disch := first | omega | (simp only [new_n, put_n]; omega) | decide +kernel | (repeat first | rw [new_n] | rw [put_n])) only [wpS, wpT, Nat.reduceEqDiff, reduceIte, Nat.reduceLT, Nat.reduceLeDiff, Nat.reduceAdd, Nat.reduceMul, Nat.reduceBEq, Int.reduceToNat, ld47, st47, f0, f1, hr2, hg2, e1]
    exact ⟨d &&& (d - 1), by omega, hJ2, by simp [f0], by simp [f1]⟩
  · simp at hc
    subst hc
    simp -dsimp (maxSteps := 1000000) (disch := first | omega | (simp only [new_n, put_n]; omega) | decide +kernel | (repeat first | rw [new_n] | rw [put_n])) only [wpS, wpT, Nat.reduceEqDiff, reduceIte, Nat.reduceLT, Nat.reduceLeDiff, Nat.reduceAdd, Nat.reduceMul, Nat.reduceBEq, Int.reduceToNat, ld47, st47, f0, f1, hr]
    exact hD _ hJ1
end Go.Id

/-! Contracts: graphs. What Check says of any graph. -/
namespace Go.Id
open Go

/-- The cells of a list of edges. -/
def eCells (E : List (Int × Int)) : List Value := E.flatMap fun e => [KI e.1, KI e.2]
theorem eCells_len (E : List (Int × Int)) : (eCells E).length = E.length * 2 := by
  induction E with
  | nil => rfl
  | cons e E ih => simp [eCells] at ih ⊢; omega
theorem eCells_at {E : List (Int × Int)} {i : Nat} {e : Int × Int} (h : E[i]? = some e) : ((eCells E).drop (i * 2)).take 2 = [KI e.1, KI e.2] := by
  induction E generalizing i with
  | nil => simp at h
  | cons a E ih =>
    cases i with
    | zero => simp at h; subst h; simp [eCells]
    | succ i =>
      have := ih (i := i) (by simpa using h)
      simp only [eCells, List.flatMap_cons, show (i + 1) * 2 = i * 2 + 2 by omega] at this ⊢
      rw [List.drop_append]
      simpa using this

/-- Are the edges, behind another one, as they must be? -/
def edgesB (n : Int) : Int × Int → List (Int × Int) → Bool
  | _, [] => true
  | p, x :: l => decide (0 ≤ x.1) && decide (x.1 < x.2) && decide (x.2 < n) && decide (cmpL [p.1, p.2] [x.1, x.2] < 0) && edgesB n x l
/-- What graph.Check answers. -/
def graphErr (n : Int) (E : List (Int × Int)) : Int := if 1 ≤ n ∧ n ≤ 64 ∧ E.length ≤ 200 ∧ edgesB n (-1, -1) E = true then 0 else 180
theorem idx02 : idxAt 0 2 = some 0 := rfl
theorem idx12 : idxAt 1 2 = some 1 := rfl
theorem take2 (a b : Value) : List.take 2 [a, b] = [a, b] := rfl
theorem splice2 (a b c d : Value) : IH.splice [a, b] 0 [c, d] = [c, d] := rfl
theorem ok2 (a b : Int) : ([KI a, KI b].length = 2 ∧ [KI a, KI b].all cellOK = true) = True := by simp [cellOK, KI]
theorem gcheck_ok {h : IH} {n : Int} {E : List (Int × Int)} {v : Value} (hn : In64 n) (hE : SlOf h 2 v E.length (eCells E)) (hlen : E.length < 1000000000) (hI : ∀ e ∈ E, In64 e.1 ∧ In64 e.2) :
    WV Proofs.Tryd.prog (.func (.func 61) #[] #[]) [.agg #[KI n, v]] h fun r h' => Ext h h' ∧ r = KI (graphErr n E) := by
  refine enter (nt := 53) (rs := [.tmp 2]) Proofs.Tryd.func61 rfl rfl rfl (by simp) ?_
  by_cases c0 : 1 ≤ n ∧ n ≤ 64 ∧ E.length ≤ 200
  · obtain ⟨c1, c2, c3⟩ := c0
    simp -dsimp (maxSteps := 1000000) (disch := first | omega | (simp only [new_n, put_n]; omega) | decide +kernel | (repeat first | rw [new_n] | rw [put_n])) only [wpS, wpT, Nat.reduceEqDiff, reduceIte, Nat.reduceLT, Nat.reduceLeDiff, Nat.reduceAdd, Nat.reduceMul, Nat.reduceBEq, Int.reduceToNat, fa32_0, ld3, fa32_1, ld30, bv52, pl52_0, pl52_1, zc52, st52, es30, ld52, ar52, u52, ln30, hE.len sl30]
    refine loop (fun m fr h1 => ∃ (i : Nat) (p : Int × Int) (q : Nat), i + m = E.length ∧ Ext (h.new (.cells [KI n, v] 0 none)) h1 ∧ fget fr 1 = some (ptr (2 * h.n) 0) ∧ fget fr 3 = some (ptr (2 * q) 0) ∧ h.n < q ∧ q < h1.n ∧ h1.ext.get q = some (.cells [KI p.1, KI p.2] 0 none) ∧ fget fr 22 = some v ∧ fget fr 23 = some (KI E.length) ∧ fget fr 24 = some (KI i) ∧ edgesB n (-1, -1) E = edgesB n p (E.drop i)) E.length
      ⟨0, (-1, -1), h.n + 1, by simp, ((Ext.refl _).new _).put (by simp) _, by simp, by simp, by omega, by simp, get_put_same _ _ rfl, by simp, by simp, by simp, by simp⟩ ?_
    rintro m fr h1 ⟨i, p, q, him, hE1, f1, f3, hq, hqn, hg, f22, f23, f24, hz⟩
    have hE0 : Ext h h1 := ((Ext.refl h).new _).trans hE1
    have hr0 : h1.row (2 * h.n) = some [KI n, v] := by rw [hE1.row (by simp)]; exact row_new_same _ _ _ _ rfl
    have hr3 : h1.row (2 * q) = some [KI p.1, KI p.2] := by rw [row_even]; simp [IH.cells, hg]
    simp -dsimp (maxSteps := 1000000) (disch := first | omega | (simp only [new_n, put_n]; omega) | decide +kernel | (repeat first | rw [new_n] | rw [put_n])) only [wpS, wpT, Nat.reduceEqDiff, reduceIte, Nat.reduceLT, Nat.reduceLeDiff, Nat.reduceAdd, Nat.reduceMul, Nat.reduceBEq, Int.reduceToNat, fa32_0, ld3, fa32_1, ld30, bv52, pl52_0, pl52_1, zc52, st52, es30, ld52, ar52, u52, ln30, f1, f3, f22, f23, f24]
    refine bq_intro ?_ ?_ <;> intro hc2 <;> simp only [bne_iff_ne, beq_iff_eq, decide_eq_true_eq, decide_eq_false_iff_not, bne_eq_false_iff_eq, beq_eq_false_iff_ne, ne_eq, Bool.not_eq_true', Bool.not_eq_false', Bool.not_eq_true, Bool.not_eq_false, Decidable.not_not, Bool.not_not] at hc2
    · have hi : i < E.length := by omega
      obtain ⟨x, hx⟩ : ∃ x, E[i]? = some x := ⟨E[i], List.getElem?_eq_getElem hi⟩
      have hxI := hI x (List.mem_of_getElem? hx)
      have ed : E.drop i = x :: E.drop (i + 1) := by
        have h1 := List.getElem?_eq_some_iff.1 hx
        rw [← h1.2, List.getElem_cons_drop_succ_eq_drop]
      rw [ed, edgesB] at hz
      have facts1 := hE.idx (P := Proofs.Tryd.prog) es30 (k := .i64) hi
      have facts2 := hE.ldAgg hE0.keep (P := Proofs.Tryd.prog) (t := 52) (c := i * 2) (m := 2) (by rw [eCells_len]; omega) (by omega) ag52 sz52
      rw [eCells_at hx] at facts2
      have bad : ∀ b : Bool, edgesB n (-1, -1) E = b → b = false → KI 180 = KI (graphErr n E) := by
        rintro _ hb rfl
        rw [graphErr, hb, if_neg (by simp)]
      have hE2 : Ext h ((h1.new (.cells [.int .i64 0, .int .i64 0] 0 none)).put h1.n (.cells [KI x.1, KI x.2] 0 none)) := (hE0.new _).put hE0.n _
      by_cases d1 : x.1 < 0
      · simp -dsimp (maxSteps := 1000000) (disch := first | omega | (simp only [new_n, put_n]; omega) | decide +kernel | (repeat first | rw [new_n] | rw [put_n])) only [wpS, wpT, Nat.reduceEqDiff, reduceIte, Nat.reduceLT, Nat.reduceLeDiff, Nat.reduceAdd, Nat.reduceMul, Nat.reduceBEq, Int.reduceToNat, fa32_0, ld3, fa32_1, ld30, bv52, pl52_0, pl52_1, zc52, st52, es30, ld52, ar52, u52, ln30, f1, f3, f22, f23, f24, facts1, facts2, idx02, idx12]
        exact ⟨hE2, bad _ hz (by rw [decide_eq_false (by omega : ¬ 0 ≤ x.1)]; rfl)⟩
      by_cases d2 : x.2 ≤ x.1
      · simp -dsimp (maxSteps := 1000000) (disch := first | omega | (simp only [new_n, put_n]; omega) | decide +kernel | (repeat first | rw [new_n] | rw [put_n])) only [wpS, wpT, Nat.reduceEqDiff, reduceIte, Nat.reduceLT, Nat.reduceLeDiff, Nat.reduceAdd, Nat.reduceMul, Nat.reduceBEq, Int.reduceToNat, fa32_0, ld3, fa32_1, ld30, bv52, pl52_0, pl52_1, zc52, st52, es30, ld52, ar52, u52, ln30, f1, f3, f22, f23, f24, facts1, facts2, idx02, idx12]
        exact ⟨hE2, bad _ hz (by rw [decide_eq_false (by omega : ¬ x.1 < x.2)]; simp)⟩
      by_cases d3 : n ≤ x.2
      · simp -dsimp (maxSteps := 1000000) (disch := first | omega | (simp only [new_n, put_n]; omega) | decide +kernel | (repeat first | rw [new_n] | rw [put_n])) only [wpS, wpT, Nat.reduceEqDiff, reduceIte, Nat.reduceLT, Nat.reduceLeDiff, Nat.reduceAdd, Nat.reduceMul, Nat.reduceBEq, Int.reduceToNat, fa32_0, ld3, fa32_1, ld30, bv52, pl52_0, pl52_1, zc52, st52, es30, ld52, ar52, u52, ln30, f1, f3, f22, f23, f24, facts1, facts2, idx02, idx12, hr0]
        exact ⟨hE2, bad _ hz (by rw [decide_eq_false (by omega : ¬ x.2 < n)]; simp)⟩
      simp -dsimp (maxSteps := 1000000) (disch := first | omega | (simp only [new_n, put_n]; omega) | decide +kernel | (repeat first | rw [new_n] | rw [put_n])) only [wpS, wpT, Nat.reduceEqDiff, reduceIte, Nat.reduceLT, Nat.reduceLeDiff, Nat.reduceAdd, Nat.reduceMul, Nat.reduceBEq, Int.reduceToNat, fa32_0, ld3, fa32_1, ld30, bv52, pl52_0, pl52_1, zc52, st52, es30, ld52, ar52, u52, ln30, f1, f3, f22, f23, f24, facts1, facts2, idx02, idx12, hr0, slice_arr (P := Proofs.Tryd.prog) (n := 2) u52 sz3]
      have r1 : ((h1.new (.cells [.int .i64 0, .int .i64 0] 0 none)).put h1.n (.cells [KI x.1, KI x.2] 0 none)).row (2 * q) = some [KI p.1, KI p.2] := by
        rw [row_even]; simp only [IH.cells]; rw [get_put_old _ _ (by omega), get_new_old _ _ (by omega), hg]
      have r2 : ((h1.new (.cells [.int .i64 0, .int .i64 0] 0 none)).put h1.n (.cells [KI x.1, KI x.2] 0 none)).row (2 * h1.n) = some [KI x.1, KI x.2] := by
        rw [row_even]; simp only [IH.cells]; rw [get_put_same _ _ rfl]
      have g2 : ((h1.new (.cells [.int .i64 0, .int .i64 0] 0 none)).put h1.n (.cells [KI x.1, KI x.2] 0 none)).ext.get h1.n = some (.cells [KI x.1, KI x.2] 0 none) := get_put_same _ _ rfl
      have g3 : ((h1.new (.cells [.int .i64 0, .int .i64 0] 0 none)).put h1.n (.cells [KI x.1, KI x.2] 0 none)).ext.get q = some (.cells [KI p.1, KI p.2] 0 none) := by
        rw [get_put_old _ _ (by omega), get_new_old _ _ (by omega), hg]
      refine call (compare_ok (a := [p.1, p.2]) (b := [x.1, x.2]) (arr_now r1 (by omega) rfl rfl (by simp)) (arr_now r2 (by omega) rfl rfl (by simp)) rfl (by simp)) ?_
      rintro _ _ ⟨rfl, rfl⟩
      generalize hH : (h1.new (.cells [.int .i64 0, .int .i64 0] 0 none)).put h1.n (.cells [KI x.1, KI x.2] 0 none) = H at *
      by_cases d4 : cmpL [p.1, p.2] [x.1, x.2] < 0
      · simp -dsimp (maxSteps := 1000000) (disch := first | omega | (simp only [new_n, put_n]; omega) | decide +kernel | (repeat first | rw [new_n] | rw [put_n])) only [wpS, wpT, Nat.reduceEqDiff, reduceIte, Nat.reduceLT, Nat.reduceLeDiff, Nat.reduceAdd, Nat.reduceMul, Nat.reduceBEq, Int.reduceToNat, fa32_0, ld3, fa32_1, ld30, bv52, pl52_0, pl52_1, zc52, st52, es30, ld52, ar52, u52, ln30, f1, f3, f22, f23, f24, r2, g2, g3, List.drop_zero, take2, splice2, ok2, if_true]
        have hz2 : edgesB n (-1, -1) E = edgesB n x (E.drop (i + 1)) := by
          rw [hz, decide_eq_true (by omega : 0 ≤ x.1), decide_eq_true (by omega : x.1 < x.2), decide_eq_true (by omega : x.2 < n), decide_eq_true d4]; rfl
        have hE3 : Ext (h.new (.cells [KI n, v] 0 none)) H := by rw [← hH]; exact (hE1.new _).put hE1.n _
        have hHn : H.n = h1.n + 1 := by rw [← hH]; rfl
        exact ⟨m - 1, by omega, i + 1, x, q, by omega, hE3.put (by simp; omega) _, by simp [f1], by simp [f3], hq, by simp; omega, get_put_same _ _ rfl, by simp [f22], by simp [f23], by simp, hz2⟩
      · simp -dsimp (maxSteps := 1000000) (disch := first | omega | (simp only [new_n, put_n]; omega) | decide +kernel | (repeat first | rw [new_n] | rw [put_n])) only [wpS, wpT, Nat.reduceEqDiff, reduceIte, Nat.reduceLT, Nat.reduceLeDiff, Nat.reduceAdd, Nat.reduceMul, Nat.reduceBEq, Int.reduceToNat, fa32_0, ld3, fa32_1, ld30, bv52, pl52_0, pl52_1, zc52, st52, es30, ld52, ar52, u52, ln30]
        exact ⟨hE2, bad _ hz (by rw [decide_eq_false d4]; simp)⟩
    · simp -dsimp (maxSteps := 1000000) (disch := first | omega | (simp only [new_n, put_n]; omega) | decide +kernel | (repeat first | rw [new_n] | rw [put_n])) only [wpS, wpT, Nat.reduceEqDiff, reduceIte, Nat.reduceLT, Nat.reduceLeDiff, Nat.reduceAdd, Nat.reduceMul, Nat.reduceBEq, Int.reduceToNat, fa32_0, ld3, fa32_1, ld30, bv52, pl52_0, pl52_1, zc52, st52, es30, ld52, ar52, u52, ln30]
      refine ⟨hE0, ?_⟩
      rw [graphErr, hz, List.drop_of_length_le (by omega), edgesB]
      rw [if_pos ⟨c1, c2, c3, rfl⟩]
  · have : graphErr n E = 180 := by rw [graphErr, if_neg (fun x => c0 ⟨x.1, x.2.1, x.2.2.1⟩)]
    rw [this]
    by_cases c1 : n < 1
    · simp -dsimp (maxSteps := 1000000) (disch := first | omega | (simp only [new_n, put_n]; omega) | decide +kernel | (repeat first | rw [new_n] | rw [put_n])) only [wpS, wpT, Nat.reduceEqDiff, reduceIte, Nat.reduceLT, Nat.reduceLeDiff, Nat.reduceAdd, Nat.reduceMul, Nat.reduceBEq, Int.reduceToNat, fa32_0, ld3, fa32_1, ld30, bv52, pl52_0, pl52_1, zc52, st52, es30, ld52, ar52, u52, ln30, hE.len sl30]
      exact (Ext.refl h).new _
    · by_cases c2 : 64 < n
      · simp -dsimp (maxSteps := 1000000) (disch := first | omega | (simp only [new_n, put_n]; omega) | decide +kernel | (repeat first | rw [new_n] | rw [put_n])) only [wpS, wpT, Nat.reduceEqDiff, reduceIte, Nat.reduceLT, Nat.reduceLeDiff, Nat.reduceAdd, Nat.reduceMul, Nat.reduceBEq, Int.reduceToNat, fa32_0, ld3, fa32_1, ld30, bv52, pl52_0, pl52_1, zc52, st52, es30, ld52, ar52, u52, ln30, hE.len sl30]
        exact (Ext.refl h).new _
      · have c3 : 200 < E.length := by omega
        simp -dsimp (maxSteps := 1000000) (disch := first | omega | (simp only [new_n, put_n]; omega) | decide +kernel | (repeat first | rw [new_n] | rw [put_n])) only [wpS, wpT, Nat.reduceEqDiff, reduceIte, Nat.reduceLT, Nat.reduceLeDiff, Nat.reduceAdd, Nat.reduceMul, Nat.reduceBEq, Int.reduceToNat, fa32_0, ld3, fa32_1, ld30, bv52, pl52_0, pl52_1, zc52, st52, es30, ld52, ar52, u52, ln30, hE.len sl30]
        exact (Ext.refl h).new _
end Go.Id

/-! Contracts: the length of a number, and what is wrong with a graph and a set. -/
namespace Go.Id
open Go

/-- The length of a small number. -/
def blen : Nat → Nat
  | 0 => 0
  | n + 1 => Nat.log2 (n + 1) + 1
theorem blen_ok : ∀ x, x < 256 → ∀ N, N < 9 → (N < blen x ↔ 2 ^ N ≤ x) := by decide +kernel
theorem index_tab {P : Program} {t : TypeId} (ht : P.underlying t = some .string) (s : ByteArray) (hs : (List.range 256).all (fun j => decide (s[j]? = some (UInt8.ofNat (blen j)))) = true) {j : Nat} (hj : j < 256) : indexV P t (.string s) (.int .u8 j) = some (.int .u8 (blen j)) := by
  rw [List.all_eq_true] at hs
  have h1 := hs j (List.mem_range.2 hj)
  simp only [decide_eq_true_eq] at h1
  have hb : blen j < 256 := by
    have := (blen_ok j hj 8 (by omega)).1
    rcases Nat.lt_or_ge 8 (blen j) with h | h
    · have := this h; omega
    · omega
  have h2 : pureRun P (Instr.index t (.string s) (.int .u8 j)) = some (.int .u8 (blen j)) := by
    unfold Instr.index
    rw [pr_bind (show pureRun P (asIntOf (.int .u8 j)) = some (IntKind.u8, (j : Int)) from rfl)]
    simp only
    rw [pr_bind (pr_underlying ht)]
    simp only [Int.toNat_natCast, show (0 : Int) ≤ (j : Int) by omega, if_true, h1]
    rw [pr_pure]
    have : (UInt8.ofNat (blen j)).toNat = blen j := by simp; omega
    rw [this]
  have hp : plain (.int .u8 j) = true := rfl
  simp only [indexV, hp, cond_true, pureVal, h2]
  rfl
theorem ex_intro {α : Type} {o : Option α} {K : α → Prop} {v : α} (h : o = some v) (k : K v) : Do (Ex o) K nx := ⟨v, h, k⟩
/-- x is what is left of u behind k places. -/
def LenR (u x k : Nat) : Prop := x = u / 2 ^ k ∧ (0 < k → 0 < x)
theorem LenR.ok {u x k : Nat} (h : LenR u x k) (hx : x < 256) (N : Nat) : N < k + blen x ↔ 2 ^ N ≤ u := by
  obtain ⟨rfl, h2⟩ := h
  rcases Nat.lt_or_ge N k with h | h
  · have hx0 := h2 (by omega)
    have h3 : 2 ^ k ≤ u := by
      apply Classical.byContradiction; intro hh
      rw [Nat.div_eq_of_lt (by omega)] at hx0; omega
    have h4 : 2 ^ N ≤ 2 ^ k := Nat.pow_le_pow_right (by omega) (by omega)
    exact ⟨fun _ => Nat.le_trans h4 h3, fun _ => by omega⟩
  · obtain ⟨d, rfl⟩ : ∃ d, N = k + d := ⟨N - k, by omega⟩
    have e : 2 ^ (k + d) ≤ u ↔ 2 ^ d ≤ u / 2 ^ k := by
      rw [Nat.le_div_iff_mul_le (Nat.pow_pos (by omega)), Nat.pow_add, Nat.mul_comm]
    rw [e]
    rcases Nat.lt_or_ge d 9 with hd | hd
    · rw [← blen_ok _ hx d hd]; omega
    · have h9 : 2 ^ 9 ≤ 2 ^ d := Nat.pow_le_pow_right (by omega) hd
      have hb : ¬ 9 ≤ blen (u / 2 ^ k) := by
        intro hh
        have := (blen_ok _ hx 8 (by omega)).1 (by omega); omega
      constructor
      · intro; omega
      · intro; omega
theorem LenR.more {u x k d : Nat} (h : LenR u x k) (hx : 2 ^ d ≤ x) : LenR u (x / 2 ^ d) (k + d) := by
  obtain ⟨rfl, h2⟩ := h
  refine ⟨by rw [Nat.div_div_eq_div_mul, Nat.pow_add], fun _ => ?_⟩
  exact Nat.div_pos hx (Nat.pow_pos (by omega))
theorem len64_ok {h : IH} (u : Nat) (hu : u < 18446744073709551616) : WV Proofs.Tryd.prog (.func (.func 97) #[] #[]) [K64 u] h fun r h' => h' = h ∧ ∃ k : Nat, r = KN k ∧ k < 1000 ∧ ∀ N, N < k ↔ 2 ^ N ≤ u := by
  refine enter (nt := 25) (rs := [.tmp 2]) Proofs.Tryd.func97 rfl rfl rfl (by simp) ?_
  simp -dsimp (maxSteps := 1000000) (disch := first | omega | (simp only [new_n, put_n]; omega) | decide +kernel | (repeat first | rw [new_n] | rw [put_n])) only [wpS, wpT, Nat.reduceEqDiff, reduceIte, Nat.reduceLT, Nat.reduceLeDiff, Nat.reduceAdd, Nat.reduceMul, Nat.reduceBEq, Int.reduceToNat, cv47_5, cv5_3, u9]
  refine bq_cut (fun fr2 h2 => h2 = h ∧ ∃ x k : Nat, fget fr2 0 = some (K64 x) ∧ fget fr2 2 = some (KN k) ∧ k ≤ 32 ∧ x < 4294967296 ∧ LenR u x k) (fun hc => ?_) (fun hc => ?_) ?_
  · simp only [bne_iff_ne, beq_iff_eq, decide_eq_true_eq, decide_eq_false_iff_not, bne_eq_false_iff_eq, beq_eq_false_iff_ne, ne_eq, Bool.not_eq_true', Bool.not_eq_false', Bool.not_eq_true, Bool.not_eq_false, Decidable.not_not, Bool.not_not] at hc
    have e1 : nshr u 32 = u / 4294967296 := by rw [nshr, Nat.shiftRight_eq_div_pow]
    simp -dsimp (maxSteps := 1000000) (disch := first | omega | (simp only [new_n, put_n]; omega) | decide +kernel | (repeat first | rw [new_n] | rw [put_n])) only [wpS, wpT, Nat.reduceEqDiff, reduceIte, Nat.reduceLT, Nat.reduceLeDiff, Nat.reduceAdd, Nat.reduceMul, Nat.reduceBEq, Int.reduceToNat, cv47_5, cv5_3, u9, e1]
    refine ⟨rfl, u / 4294967296, 32, by simp, by simp, by omega, by omega, by simp, fun _ => by omega⟩
  · simp only [bne_iff_ne, beq_iff_eq, decide_eq_true_eq, decide_eq_false_iff_not, bne_eq_false_iff_eq, beq_eq_false_iff_ne, ne_eq, Bool.not_eq_true', Bool.not_eq_false', Bool.not_eq_true, Bool.not_eq_false, Decidable.not_not, Bool.not_not] at hc
    simp -dsimp (maxSteps := 1000000) (disch := first | omega | (simp only [new_n, put_n]; omega) | decide +kernel | (repeat first | rw [new_n] | rw [put_n])) only [wpS, wpT, Nat.reduceEqDiff, reduceIte, Nat.reduceLT, Nat.reduceLeDiff, Nat.reduceAdd, Nat.reduceMul, Nat.reduceBEq, Int.reduceToNat, cv47_5, cv5_3, u9]
    refine ⟨rfl, u, 0, by simp, by simp, by omega, by omega, by simp, by omega⟩
  rintro fr h1 ⟨rfl, x, k, f0, f2, hk, hx, hL⟩
  simp -dsimp (maxSteps := 1000000) (disch := first | omega | (simp only [new_n, put_n]; omega) | decide +kernel | (repeat first | rw [new_n] | rw [put_n])) only [wpS, wpT, Nat.reduceEqDiff, reduceIte, Nat.reduceLT, Nat.reduceLeDiff, Nat.reduceAdd, Nat.reduceMul, Nat.reduceBEq, Int.reduceToNat, cv47_5, cv5_3, u9, f0, f2]
  refine bq_cut (fun fr2 h2 => h2 = h1 ∧ ∃ x k : Nat, fget fr2 0 = some (K64 x) ∧ fget fr2 2 = some (KN k) ∧ k ≤ 48 ∧ x < 65536 ∧ LenR u x k) (fun hc => ?_) (fun hc => ?_) ?_
  · simp only [bne_iff_ne, beq_iff_eq, decide_eq_true_eq, decide_eq_false_iff_not, bne_eq_false_iff_eq, beq_eq_false_iff_ne, ne_eq, Bool.not_eq_true', Bool.not_eq_false', Bool.not_eq_true, Bool.not_eq_false, Decidable.not_not, Bool.not_not] at hc
    have e1 : nshr x 16 = x / 65536 := by rw [nshr, Nat.shiftRight_eq_div_pow]
    simp -dsimp (maxSteps := 1000000) (disch := first | omega | (simp only [new_n, put_n]; omega) | decide +kernel | (repeat first | rw [new_n] | rw [put_n])) only [wpS, wpT, Nat.reduceEqDiff, reduceIte, Nat.reduceLT, Nat.reduceLeDiff, Nat.reduceAdd, Nat.reduceMul, Nat.reduceBEq, Int.reduceToNat, cv47_5, cv5_3, u9, f0, f2, e1]
    exact ⟨rfl, x / 65536, k + 16, by simp, by simp, by omega, by omega, hL.more (d := 16) (by omega)⟩
  · simp only [bne_iff_ne, beq_iff_eq, decide_eq_true_eq, decide_eq_false_iff_not, bne_eq_false_iff_eq, beq_eq_false_iff_ne, ne_eq, Bool.not_eq_true', Bool.not_eq_false', Bool.not_eq_true, Bool.not_eq_false, Decidable.not_not, Bool.not_not] at hc
    simp -dsimp (maxSteps := 1000000) (disch := first | omega | (simp only [new_n, put_n]; omega) | decide +kernel | (repeat first | rw [new_n] | rw [put_n])) only [wpS, wpT, Nat.reduceEqDiff, reduceIte, Nat.reduceLT, Nat.reduceLeDiff, Nat.reduceAdd, Nat.reduceMul, Nat.reduceBEq, Int.reduceToNat, cv47_5, cv5_3, u9]
    refine ⟨rfl, x, k, by simp [f0], by simp [f2], by omega, by omega, hL⟩
  rintro fr h2 ⟨rfl, x, k, f0, f2, hk, hx, hL⟩
  simp -dsimp (maxSteps := 1000000) (disch := first | omega | (simp only [new_n, put_n]; omega) | decide +kernel | (repeat first | rw [new_n] | rw [put_n])) only [wpS, wpT, Nat.reduceEqDiff, reduceIte, Nat.reduceLT, Nat.reduceLeDiff, Nat.reduceAdd, Nat.reduceMul, Nat.reduceBEq, Int.reduceToNat, cv47_5, cv5_3, u9, f0, f2]
  refine bq_cut (fun fr2 h3 => h3 = h2 ∧ ∃ x k : Nat, fget fr2 0 = some (K64 x) ∧ fget fr2 2 = some (KN k) ∧ k ≤ 56 ∧ x < 256 ∧ LenR u x k) (fun hc => ?_) (fun hc => ?_) ?_
  · simp only [bne_iff_ne, beq_iff_eq, decide_eq_true_eq, decide_eq_false_iff_not, bne_eq_false_iff_eq, beq_eq_false_iff_ne, ne_eq, Bool.not_eq_true', Bool.not_eq_false', Bool.not_eq_true, Bool.not_eq_false, Decidable.not_not, Bool.not_not] at hc
    have e1 : nshr x 8 = x / 256 := by rw [nshr, Nat.shiftRight_eq_div_pow]
    simp -dsimp (maxSteps := 1000000) (disch := first | omega | (simp only [new_n, put_n]; omega) | decide +kernel | (repeat first | rw [new_n] | rw [put_n])) only [wpS, wpT, Nat.reduceEqDiff, reduceIte, Nat.reduceLT, Nat.reduceLeDiff, Nat.reduceAdd, Nat.reduceMul, Nat.reduceBEq, Int.reduceToNat, cv47_5, cv5_3, u9, f0, f2, e1]
    exact ⟨rfl, x / 256, k + 8, by simp, by simp, by omega, by omega, hL.more (d := 8) (by omega)⟩
  · simp only [bne_iff_ne, beq_iff_eq, decide_eq_true_eq, decide_eq_false_iff_not, bne_eq_false_iff_eq, beq_eq_false_iff_ne, ne_eq, Bool.not_eq_true', Bool.not_eq_false', Bool.not_eq_true, Bool.not_eq_false, Decidable.not_not, Bool.not_not] at hc
    simp -dsimp (maxSteps := 1000000) (disch := first | omega | (simp only [new_n, put_n]; omega) | decide +kernel | (repeat first | rw [new_n] | rw [put_n])) only [wpS, wpT, Nat.reduceEqDiff, reduceIte, Nat.reduceLT, Nat.reduceLeDiff, Nat.reduceAdd, Nat.reduceMul, Nat.reduceBEq, Int.reduceToNat, cv47_5, cv5_3, u9]
    refine ⟨rfl, x, k, by simp [f0], by simp [f2], by omega, by omega, hL⟩
  rintro fr h3 ⟨rfl, x, k, f0, f2, hk, hx, hL⟩
  simp -dsimp (maxSteps := 1000000) (disch := first | omega | (simp only [new_n, put_n]; omega) | decide +kernel | (repeat first | rw [new_n] | rw [put_n])) only [wpS, wpT, Nat.reduceEqDiff, reduceIte, Nat.reduceLT, Nat.reduceLeDiff, Nat.reduceAdd, Nat.reduceMul, Nat.reduceBEq, Int.reduceToNat, cv47_5, cv5_3, u9, f0, f2]
  refine ex_intro (index_tab u9 _ (by decide +kernel) hx) ?_
  simp -dsimp (maxSteps := 1000000) (disch := first | omega | (simp only [new_n, put_n]; omega) | decide +kernel | (repeat first | rw [new_n] | rw [put_n])) only [wpS, wpT, Nat.reduceEqDiff, reduceIte, Nat.reduceLT, Nat.reduceLeDiff, Nat.reduceAdd, Nat.reduceMul, Nat.reduceBEq, Int.reduceToNat, cv47_5, cv5_3, u9]
  have hb : blen x < 256 := by
    have := (blen_ok x hx 8 (by omega)).1
    rcases Nat.lt_or_ge 8 (blen x) with h | h
    · have := this h; omega
    · omega
  refine ⟨k + blen x, ?_, by omega, fun N => hL.ok hx N⟩
  rw [wrap_i64 (x := (blen x : Int)) (by omega), wrap_i64 (by omega)]
  exact congrArg (Value.int .i64) (by omega)
end Go.Id

/-! Contracts: graphs. The neighbours of each node; connected sets. -/
namespace Go.Id
open Go

/-- Edges between numbered nodes. -/
def castE (E : List (Nat × Nat)) : List (Int × Int) := E.map fun e => ((e.1 : Int), (e.2 : Int))
def setErr (n : Int) (E : List (Int × Int)) (s : Nat) : Int := if graphErr n E = 0 then (if s < 2 ^ n.toNat then 0 else 2) else graphErr n E
theorem graphErr_or (n : Int) (E : List (Int × Int)) : graphErr n E = 0 ∧ 1 ≤ n ∧ n ≤ 64 ∨ graphErr n E = 180 := by
  unfold graphErr
  split
  · rename_i h; exact .inl ⟨rfl, h.1, h.2.1⟩
  · exact .inr rfl
theorem check_ok {h : IH} {n : Int} {E : List (Int × Int)} {v : Value} (hn : In64 n) (hE : SlOf h 2 v E.length (eCells E)) (hlen : E.length < 1000000000) (hI : ∀ e ∈ E, In64 e.1 ∧ In64 e.2) (s : Nat) (hs : s < 18446744073709551616) :
    WV Proofs.Tryd.prog (.func (.func 67) #[] #[]) [.agg #[KI n, v], K64 s] h fun r h' => Ext h h' ∧ r = KI (setErr n E s) := by
  refine enter (nt := 16) (rs := [.tmp 4]) Proofs.Tryd.func67 rfl rfl rfl (by simp) ?_
  simp -dsimp (maxSteps := 1000000) (disch := first | omega | (simp only [new_n, put_n]; omega) | decide +kernel | (repeat first | rw [new_n] | rw [put_n])) only [wpS, wpT, Nat.reduceEqDiff, reduceIte, Nat.reduceLT, Nat.reduceLeDiff, Nat.reduceAdd, Nat.reduceMul, Nat.reduceBEq, Int.reduceToNat, ld32, fa32_0, ld3]
  have hE0 : Ext h (h.new (.cells [KI n, v] 0 none)) := (Ext.refl h).new _
  refine call (gcheck_ok hn (hE.keep hE0.keep) hlen hI) ?_
  rintro r h1 ⟨hE1, rfl⟩
  have hr0 : h1.row (2 * h.n) = some [KI n, v] := by rw [hE1.row (by simp)]; exact row_new_same _ _ _ _ rfl
  rcases graphErr_or n E with ⟨h0, hn1, hn2⟩ | h0
  · rw [h0]
    simp -dsimp (maxSteps := 1000000) (disch := first | omega | (simp only [new_n, put_n]; omega) | decide +kernel | (repeat first | rw [new_n] | rw [put_n])) only [wpS, wpT, Nat.reduceEqDiff, reduceIte, Nat.reduceLT, Nat.reduceLeDiff, Nat.reduceAdd, Nat.reduceMul, Nat.reduceBEq, Int.reduceToNat, ld32, fa32_0, ld3]
    refine drawn [(3, [1])] (by kernel_rfl) (by kernel_rfl) rfl ?_
    simp -dsimp (maxSteps := 1000000) (disch := first | omega | (simp only [new_n, put_n]; omega) | decide +kernel | (repeat first | rw [new_n] | rw [put_n])) only [wpS, wpT, Nat.reduceEqDiff, reduceIte, Nat.reduceLT, Nat.reduceLeDiff, Nat.reduceAdd, Nat.reduceMul, Nat.reduceBEq, Int.reduceToNat, ld32, fa32_0, ld3]
    refine call (len64_ok s hs) ?_
    rintro _ _ ⟨rfl, k, rfl, hk, hN⟩
    have hNn := hN n.toNat
    simp -dsimp (maxSteps := 1000000) (disch := first | omega | (simp only [new_n, put_n]; omega) | decide +kernel | (repeat first | rw [new_n] | rw [put_n])) only [wpS, wpT, Nat.reduceEqDiff, reduceIte, Nat.reduceLT, Nat.reduceLeDiff, Nat.reduceAdd, Nat.reduceMul, Nat.reduceBEq, Int.reduceToNat, ld32, fa32_0, ld3, hr0]
    refine ⟨wpSteady_one rfl rfl rfl rfl (steady_load (av := ptr (2 * h.n) 0) (v := KI n) rfl ?_ ?_), ?_⟩
    · simp -dsimp (maxSteps := 1000000) (disch := first | omega | (simp only [new_n, put_n]; omega) | decide +kernel | (repeat first | rw [new_n] | rw [put_n])) only [wpS, wpT, Nat.reduceEqDiff, reduceIte, Nat.reduceLT, Nat.reduceLeDiff, Nat.reduceAdd, Nat.reduceMul, Nat.reduceBEq, Int.reduceToNat, ld32, fa32_0, ld3, hr0]
    · simp -dsimp (maxSteps := 1000000) (disch := first | omega | (simp only [new_n, put_n]; omega) | decide +kernel | (repeat first | rw [new_n] | rw [put_n])) only [wpS, wpT, Nat.reduceEqDiff, reduceIte, Nat.reduceLT, Nat.reduceLeDiff, Nat.reduceAdd, Nat.reduceMul, Nat.reduceBEq, Int.reduceToNat, ld32, fa32_0, ld3, hr0]
    simp -dsimp (maxSteps := 1000000) (disch := first | omega | (simp only [new_n, put_n]; omega) | decide +kernel | (repeat first | rw [new_n] | rw [put_n])) only [wpS, wpT, Nat.reduceEqDiff, reduceIte, Nat.reduceLT, Nat.reduceLeDiff, Nat.reduceAdd, Nat.reduceMul, Nat.reduceBEq, Int.reduceToNat, ld32, fa32_0, ld3, hr0]
    refine bq_intro ?_ ?_ <;> intro hc <;> simp only [bne_iff_ne, beq_iff_eq, decide_eq_true_eq, decide_eq_false_iff_not, bne_eq_false_iff_eq, beq_eq_false_iff_ne, ne_eq, Bool.not_eq_true', Bool.not_eq_false', Bool.not_eq_true, Bool.not_eq_false, Decidable.not_not, Bool.not_not] at hc
    · simp -dsimp (maxSteps := 1000000) (disch := first | omega | (simp only [new_n, put_n]; omega) | decide +kernel | (repeat first | rw [new_n] | rw [put_n])) only [wpS, wpT, Nat.reduceEqDiff, reduceIte, Nat.reduceLT, Nat.reduceLeDiff, Nat.reduceAdd, Nat.reduceMul, Nat.reduceBEq, Int.reduceToNat, ld32, fa32_0, ld3]
      exact ⟨hE0.trans hE1, by rw [setErr, if_pos h0, if_neg (by omega)]⟩
    · simp -dsimp (maxSteps := 1000000) (disch := first | omega | (simp only [new_n, put_n]; omega) | decide +kernel | (repeat first | rw [new_n] | rw [put_n])) only [wpS, wpT, Nat.reduceEqDiff, reduceIte, Nat.reduceLT, Nat.reduceLeDiff, Nat.reduceAdd, Nat.reduceMul, Nat.reduceBEq, Int.reduceToNat, ld32, fa32_0, ld3]
      exact ⟨hE0.trans hE1, by rw [setErr, if_pos h0, if_pos (by omega)]⟩
  · rw [h0]
    simp -dsimp (maxSteps := 1000000) (disch := first | omega | (simp only [new_n, put_n]; omega) | decide +kernel | (repeat first | rw [new_n] | rw [put_n])) only [wpS, wpT, Nat.reduceEqDiff, reduceIte, Nat.reduceLT, Nat.reduceLeDiff, Nat.reduceAdd, Nat.reduceMul, Nat.reduceBEq, Int.reduceToNat, ld32, fa32_0, ld3]
    exact ⟨hE0.trans hE1, by rw [setErr, if_neg (by omega), h0]⟩

/-! ### The neighbours of each node -/
/-- One edge more. -/
def adjStep (i : Nat) (a : Nat) (e : Nat × Nat) : Nat := if i = e.1 then a ||| 2 ^ e.2 else if i = e.2 then a ||| 2 ^ e.1 else a
/-- A node's neighbours. -/
def adjOf (E : List (Nat × Nat)) (i : Nat) : Nat := E.foldl (adjStep i) 0
def adjC (E : List (Nat × Nat)) (n : Nat) : List Value := (List.range n).map fun i => K64 (adjOf E i)
/-- Edges of a graph of n nodes. -/
def EdgesOK (n : Nat) (E : List (Nat × Nat)) : Prop := ∀ e ∈ E, e.1 < e.2 ∧ e.2 < n
theorem adjStep_lt {i a : Nat} {e : Nat × Nat} (ha : a < 2 ^ 64) (h1 : e.1 < 64) (h2 : e.2 < 64) : adjStep i a e < 2 ^ 64 := by
  unfold adjStep
  have p1 : 2 ^ e.1 < 2 ^ 64 := Nat.pow_lt_pow_right (by omega) h1
  have p2 : 2 ^ e.2 < 2 ^ 64 := Nat.pow_lt_pow_right (by omega) h2
  split
  · exact Nat.or_lt_two_pow ha p2
  · split
    · exact Nat.or_lt_two_pow ha p1
    · exact ha
theorem adjOf_lt {n : Nat} (hn : n ≤ 64) : ∀ {E : List (Nat × Nat)}, EdgesOK n E → ∀ (i a : Nat), a < 2 ^ 64 → E.foldl (adjStep i) a < 2 ^ 64
  | [], _, _, _, ha => ha
  | e :: E, h, i, a, ha => by
    have := h e (by simp)
    rw [List.foldl_cons]
    exact adjOf_lt hn (fun x hx => h x (by simp [hx])) i (adjStep i a e) (adjStep_lt ha (by omega) (by omega))
theorem adjOf_take {E : List (Nat × Nat)} {k : Nat} {e : Nat × Nat} (h : E[k]? = some e) (i : Nat) : adjOf (E.take (k + 1)) i = adjStep i (adjOf (E.take k) i) e := by
  rw [List.take_add_one, h]
  simp [adjOf, List.foldl_append]
theorem map_set {n : Nat} {f g : Nat → Value} {j : Nat} (hj : j < n) (h : ∀ i, i ≠ j → g i = f i) : ((List.range n).map f).set j (g j) = (List.range n).map g := by
  apply List.ext_getElem?
  intro i
  rw [List.getElem?_set]
  by_cases hi : j = i
  · subst hi; simp [hj]
  · rw [if_neg hi]
    by_cases hin : i < n
    · simp [hin, h i (fun x => hi x.symm)]
    · simp [hin]
theorem adjC_get (E : List (Nat × Nat)) {n i : Nat} (hi : i < n) : (adjC E n)[i]? = some (K64 (adjOf E i)) := by simp [adjC, hi]
theorem adjC_len (E : List (Nat × Nat)) (n : Nat) : (adjC E n).length = n := by simp [adjC]
/-- Half an edge more. -/
def midC (E : List (Nat × Nat)) (n : Nat) (e : Nat × Nat) : List Value := (List.range n).map fun i => K64 (if i = e.1 then adjOf E i ||| 2 ^ e.2 else adjOf E i)
theorem midC_get (E : List (Nat × Nat)) {n i : Nat} {e : Nat × Nat} (hi : i < n) (hne : i ≠ e.1) : (midC E n e)[i]? = some (K64 (adjOf E i)) := by simp [midC, hi, hne]
theorem midC_len (E : List (Nat × Nat)) (n : Nat) (e : Nat × Nat) : (midC E n e).length = n := by simp [midC]
theorem mid_set (E : List (Nat × Nat)) {n : Nat} {e : Nat × Nat} (h : e.1 < n) : IH.splice (adjC E n) e.1 [K64 (adjOf E e.1 ||| 2 ^ e.2)] = midC E n e := by
  rw [splice_set (by rw [adjC_len]; exact h)]
  have := map_set (f := fun i => K64 (adjOf E i)) (g := fun i => K64 (if i = e.1 then adjOf E i ||| 2 ^ e.2 else adjOf E i)) h (fun i hi => by simp [hi])
  simpa [adjC, midC] using this
theorem adj_set {E : List (Nat × Nat)} {n k : Nat} {e : Nat × Nat} (hk : E[k]? = some e) (h : e.2 < n) (h2 : e.1 < e.2) : IH.splice (midC (E.take k) n e) e.2 [K64 (adjOf (E.take k) e.2 ||| 2 ^ e.1)] = adjC (E.take (k + 1)) n := by
  rw [splice_set (by rw [midC_len]; exact h)]
  have e3 : ∀ i, adjOf (E.take (k + 1)) i = if i = e.1 then adjOf (E.take k) i ||| 2 ^ e.2 else if i = e.2 then adjOf (E.take k) i ||| 2 ^ e.1 else adjOf (E.take k) i := fun i => by rw [adjOf_take hk]; rfl
  have := map_set (f := fun i => K64 (if i = e.1 then adjOf (E.take k) i ||| 2 ^ e.2 else adjOf (E.take k) i)) (g := fun i => K64 (adjOf (E.take (k + 1)) i)) h (fun i hi => by rw [e3]; simp [hi])
  have h4 : ¬ e.2 = e.1 := by omega
  rw [e3] at this
  simp only [h4, if_false, if_true] at this
  exact this
theorem around_ok {h : IH} {n : Nat} {E : List (Nat × Nat)} {v : Value} (hn : n ≤ 64) (hn0 : 0 < n) (hE : SlOf h 2 v E.length (eCells (castE E))) (hlen : E.length < 1000000000) (hV : EdgesOK n E) :
    WV Proofs.Tryd.prog (.func (.func 102) #[] #[]) [.agg #[KI n, v]] h fun r h' => Ext h h' ∧ ∃ b, h.n ≤ b ∧ b < h'.n ∧ r = .slice (some ⟨2 * b, 0, none⟩) n (2 * n + 1) ∧ h'.ext.get b = some (.cells (adjC E n) 1 none) := by
  refine enter (nt := 38) (rs := [.tmp 2]) Proofs.Tryd.func102 rfl rfl rfl (by simp) ?_
  simp -dsimp (maxSteps := 1000000) (disch := first | omega | (simp only [new_n, put_n]; omega) | decide +kernel | (repeat first | rw [new_n] | rw [put_n])) only [wpS, wpT, Nat.reduceEqDiff, reduceIte, Nat.reduceLT, Nat.reduceLeDiff, Nat.reduceAdd, Nat.reduceMul, Nat.reduceBEq, Int.reduceToNat, fa32_0, ld3, ms38, fa32_1, ld30, es30, ld52, zc52, st52, ar52, es38, ld47, st47, ln30, hE.len sl30]
  have hb : ∀ k i, adjOf (E.take k) i < 2 ^ 64 := fun k i => adjOf_lt hn (fun x hx => hV x (List.mem_of_mem_take hx)) i 0 (by omega)
  refine loop (fun m fr h1 => ∃ i : Nat, i + m = E.length ∧ Ext h h1 ∧ h.n + 1 < h1.n ∧ h1.ext.get (h.n + 1) = some (.cells (adjC (E.take i) n) 1 none) ∧ fget fr 3 = some (.slice (some ⟨2 * (h.n + 1), 0, none⟩) n (2 * n + 1)) ∧ fget fr 10 = some v ∧ fget fr 11 = some (KI E.length) ∧ fget fr 12 = some (KI i)) E.length
    ⟨0, by simp, ((Ext.refl h).new _).new _, by simp, ?_, by simp, by simp, by simp, by simp⟩ ?_
  · rw [get_new_same _ _ (by simp), repl_one]
    simp [adjC, adjOf]
    apply List.ext_getElem?
    intro i
    by_cases hi : i < n <;> simp [hi]
  rintro m fr h1 ⟨i, him, hE1, hbn, hg, f3, f10, f11, f12⟩
  simp -dsimp (maxSteps := 1000000) (disch := first | omega | (simp only [new_n, put_n]; omega) | decide +kernel | (repeat first | rw [new_n] | rw [put_n])) only [wpS, wpT, Nat.reduceEqDiff, reduceIte, Nat.reduceLT, Nat.reduceLeDiff, Nat.reduceAdd, Nat.reduceMul, Nat.reduceBEq, Int.reduceToNat, fa32_0, ld3, ms38, fa32_1, ld30, es30, ld52, zc52, st52, ar52, es38, ld47, st47, ln30, f3, f10, f11, f12]
  refine bq_intro ?_ ?_ <;> intro hc2 <;> simp only [bne_iff_ne, beq_iff_eq, decide_eq_true_eq, decide_eq_false_iff_not, bne_eq_false_iff_eq, beq_eq_false_iff_ne, ne_eq, Bool.not_eq_true', Bool.not_eq_false', Bool.not_eq_true, Bool.not_eq_false, Decidable.not_not, Bool.not_not] at hc2
  · have hi : i < E.length := by omega
    obtain ⟨x, hx⟩ : ∃ x, E[i]? = some x := ⟨E[i], List.getElem?_eq_getElem hi⟩
    have hxV := hV x (List.mem_of_getElem? hx)
    have hx2 : (castE E)[i]? = some ((x.1 : Int), (x.2 : Int)) := by simp [castE, hx]
    have facts1 := hE.idx (P := Proofs.Tryd.prog) es30 (k := .i64) hi
    have facts2 := hE.ldAgg hE1.keep (P := Proofs.Tryd.prog) (t := 52) (c := i * 2) (m := 2) (by rw [eCells_len]; simp [castE]; omega) (by omega) ag52 sz52
    rw [eCells_at hx2] at facts2
    have hr : h1.row (2 * (h.n + 1)) = some (adjC (E.take i) n) := by rw [row_even]; simp [IH.cells, hg]
    have hb1 := hb i x.1
    have hb2 := hb i x.2
    have p1 : 2 ^ x.1 < 2 ^ 64 := Nat.pow_lt_pow_right (by omega) (by omega)
    have p2 : 2 ^ x.2 < 2 ^ 64 := Nat.pow_lt_pow_right (by omega) (by omega)
    have hne : x.2 ≠ x.1 := by omega
    have q1 : 0 ≤ ((2 ^ x.1 : Nat) : Int) := Int.natCast_nonneg _
    have q2 : 0 ≤ ((2 ^ x.2 : Nat) : Int) := Int.natCast_nonneg _
    simp -dsimp (maxSteps := 1000000) (disch := first | omega | (simp only [new_n, put_n]; omega) | decide +kernel | (repeat first | rw [new_n] | rw [put_n])) only [wpS, wpT, Nat.reduceEqDiff, reduceIte, Nat.reduceLT, Nat.reduceLeDiff, Nat.reduceAdd, Nat.reduceMul, Nat.reduceBEq, Int.reduceToNat, fa32_0, ld3, ms38, fa32_1, ld30, es30, ld52, zc52, st52, ar52, es38, ld47, st47, ln30, f3, f10, f11, f12, facts1, facts2, idx02, idx12, List.drop_zero, take2, splice2, ok2, hr, hg, adjC_get, midC_get _ hxV.2 hne, mid_set, adj_set hx hxV.2 hxV.1, adjC_len, midC_len]
    exact ⟨m - 1, by omega, i + 1, by omega, (((hE1.new _).put (by have := hE1.n; omega) _).put (by omega) _).put (by omega) _, by simp; omega, get_put_same _ _ rfl, by simp [f3], by simp [f10], by simp [f11], by simp⟩
  · simp -dsimp (maxSteps := 1000000) (disch := first | omega | (simp only [new_n, put_n]; omega) | decide +kernel | (repeat first | rw [new_n] | rw [put_n])) only [wpS, wpT, Nat.reduceEqDiff, reduceIte, Nat.reduceLT, Nat.reduceLeDiff, Nat.reduceAdd, Nat.reduceMul, Nat.reduceBEq, Int.reduceToNat, fa32_0, ld3, ms38, fa32_1, ld30, es30, ld52, zc52, st52, ar52, es38, ld47, st47, ln30, f3]
    refine ⟨hE1, h.n + 1, by omega, hbn, rfl, ?_⟩
    rw [hg, List.take_of_length_le (by omega)]
end Go.Id

/-! Connected sets: plain numbers as sets of bits. -/
namespace Go.Id

/-- Every node of a is one of b. -/
def Sub (a b : Nat) : Prop := ∀ j, a.testBit j = true → b.testBit j = true
/-- T holds the neighbours within a set of all its nodes. -/
def Closed (adj : Nat → Nat) (set T : Nat) : Prop := ∀ i j, T.testBit i = true → (adj i).testBit j = true → set.testBit j = true → T.testBit j = true
/-- R is what is reached within a set from a node. -/
structure Flood (adj : Nat → Nat) (set k R : Nat) : Prop where
  has : R.testBit k = true
  sub : Sub R set
  closed : Closed adj set R
  least : ∀ T, T.testBit k = true → Closed adj set T → Sub R T
/-- A set is connected. -/
def Conn (adj : Nat → Nat) (set : Nat) : Prop := ∃ k, Low set k ∧ ∀ T, T.testBit k = true → Closed adj set T → Sub set T
theorem Sub.eq {a b : Nat} (h : Sub a b) (k : Sub b a) : a = b := by
  apply Nat.eq_of_testBit_eq
  intro i
  rw [Bool.eq_iff_iff]
  exact ⟨h i, k i⟩
theorem Sub.refl (a : Nat) : Sub a a := fun _ h => h
theorem Sub.trans {a b c : Nat} (h : Sub a b) (k : Sub b c) : Sub a c := fun j x => k j (h j x)
theorem Sub.le {a b : Nat} (h : Sub a b) : a ≤ b := by
  have : a &&& b = a := by
    apply Nat.eq_of_testBit_eq
    intro i
    rw [Nat.testBit_and]
    cases ha : a.testBit i with
    | false => rfl
    | true => rw [h i ha]; rfl
  rw [← this]; exact Nat.and_le_right
theorem sub_iff {a b : Nat} : Sub a b ↔ a &&& b = a := by
  constructor
  · intro h
    apply Nat.eq_of_testBit_eq
    intro i
    rw [Nat.testBit_and]
    cases ha : a.testBit i with
    | false => rfl
    | true => rw [h i ha]; rfl
  · intro h j hj
    rw [← h, Nat.testBit_and] at hj
    simp at hj; exact hj.2
theorem Flood.conn {adj : Nat → Nat} {set k R : Nat} (h : Flood adj set k R) (hk : Low set k) : Conn adj set ↔ R = set := by
  constructor
  · rintro ⟨l, hl, hc⟩
    obtain rfl := hk.uniq hl
    exact h.sub.eq (hc R h.has h.closed)
  · rintro rfl
    exact ⟨k, hk, h.least⟩
theorem Flood.uniq {adj : Nat → Nat} {set k R S : Nat} (h : Flood adj set k R) (h2 : Flood adj set k S) : R = S :=
  (h.least S h2.has h2.closed).eq (h2.least R h.has h.closed)
theorem low_exists {u : Nat} (h : 0 < u) : ∃ k, Low u k := by
  obtain ⟨k, m, rfl⟩ := exists_odd u h
  exact ⟨k, low_odd k m⟩
theorem Low.pos {u k : Nat} (h : Low u k) : 0 < u := by
  rcases Nat.eq_zero_or_pos u with rfl | hh
  · have := h.1; simp at this
  · exact hh
/-- The set without its lowest node. -/
theorem low_clear {u k : Nat} (h : Low u k) (j : Nat) : (u &&& (u - 1)).testBit j = (u.testBit j && !decide (j = k)) := by
  obtain ⟨l, m, rfl⟩ := exists_odd u h.pos
  obtain rfl := h.uniq (low_odd l m)
  rw [Nat.testBit_and, bit_odd, bit_odd_pred]
  by_cases h1 : j < k
  · simp [h1]
  · by_cases h2 : j = k
    · simp [h2]
    · simp [h1, h2]
theorem low_bit {u k : Nat} (h : Low u k) (hu : u < 18446744073709551616) : u &&& (18446744073709551616 - u) = 2 ^ k := by
  obtain ⟨l, m, rfl⟩ := exists_odd u h.pos
  obtain rfl := h.uniq (low_odd l m)
  exact and_neg k m hu
theorem bit_two_pow (k j : Nat) : (2 ^ k).testBit j = decide (k = j) := Nat.testBit_two_pow
/-- What a round of a component adds. -/
structure Next (adj : Nat → Nat) (set part next : Nat) : Prop where
  bits : ∀ j, next.testBit j = true ↔ part.testBit j = true ∨ ∃ i, part.testBit i = true ∧ (adj i).testBit j = true ∧ set.testBit j = true
/-- A component in the making. -/
structure Part (adj : Nat → Nat) (set k R : Nat) : Prop where
  has : R.testBit k = true
  sub : Sub R set
  least : ∀ T, T.testBit k = true → Closed adj set T → Sub R T
theorem Part.start {adj : Nat → Nat} {set k : Nat} (h : set.testBit k = true) : Part adj set k (2 ^ k) := by
  have e : ∀ j, (2 ^ k).testBit j = true → k = j := fun j hj => by simpa [Nat.testBit_two_pow] using hj
  exact ⟨by simp [Nat.testBit_two_pow], fun j hj => by rw [← e j hj]; exact h, fun T hT _ j hj => by rw [← e j hj]; exact hT⟩
theorem Part.next {adj : Nat → Nat} {set k R S : Nat} (h : Part adj set k R) (n : Next adj set R S) : Part adj set k S ∧ Sub R S := by
  refine ⟨⟨(n.bits k).2 (.inl h.has), fun j hj => ?_, fun T hT hc j hj => ?_⟩, fun j hj => (n.bits j).2 (.inl hj)⟩
  · rcases (n.bits j).1 hj with h1 | ⟨i, _, _, h1⟩
    · exact h.sub j h1
    · exact h1
  · rcases (n.bits j).1 hj with h1 | ⟨i, h1, h2, h3⟩
    · exact h.least T hT hc j h1
    · exact hc i j (h.least T hT hc i h1) h2 h3
theorem Part.flood {adj : Nat → Nat} {set k R : Nat} (h : Part adj set k R) (n : Next adj set R R) : Flood adj set k R :=
  ⟨h.has, h.sub, fun i j hi ha hs => (n.bits j).2 (.inr ⟨i, hi, ha, hs⟩), h.least⟩
/-- A search under way: what it reached, and what of that it has not yet looked behind. -/
structure Front (adj : Nat → Nat) (set k R f : Nat) : Prop where
  part : Part adj set k R
  sub : Sub f R
  done : ∀ i j, R.testBit i = true → f.testBit i = false → (adj i).testBit j = true → set.testBit j = true → R.testBit j = true
theorem Front.start {adj : Nat → Nat} {set k : Nat} (h : set.testBit k = true) : Front adj set k (2 ^ k) (2 ^ k) :=
  ⟨Part.start h, Sub.refl _, fun i j h1 h2 => by rw [h1] at h2; cases h2⟩
theorem Front.flood {adj : Nat → Nat} {set k R : Nat} (h : Front adj set k R 0) : Flood adj set k R :=
  ⟨h.part.has, h.part.sub, fun i j h1 h2 h3 => h.done i j h1 (by simp) h2 h3, h.part.least⟩
theorem Front.step {adj : Nat → Nat} {set k R f i R2 f2 : Nat} (h : Front adj set k R f) (hi : Low f i) (hR : ∀ j, R2.testBit j = (R.testBit j || ((adj i).testBit j && set.testBit j && !R.testBit j)))
    (hf : ∀ j, f2.testBit j = ((f &&& (f - 1)).testBit j || ((adj i).testBit j && set.testBit j && !R.testBit j))) : Front adj set k R2 f2 := by
  have h1 : ∀ j, R2.testBit j = true ↔ R.testBit j = true ∨ (adj i).testBit j = true ∧ set.testBit j = true := by
    intro j; rw [hR]
    cases R.testBit j <;> simp
  have hiR := h.sub i hi.1
  refine ⟨⟨(h1 k).2 (.inl h.part.has), fun j hj => ?_, fun T hT hc j hj => ?_⟩, fun j hj => ?_, fun a j ha hfa had hset => ?_⟩
  · rcases (h1 j).1 hj with h2 | h2
    · exact h.part.sub j h2
    · exact h2.2
  · rcases (h1 j).1 hj with h2 | h2
    · exact h.part.least T hT hc j h2
    · exact hc i j (h.part.least T hT hc i hiR) h2.1 h2.2
  · rw [hf, low_clear hi] at hj
    rw [h1]
    simp only [Bool.or_eq_true, Bool.and_eq_true] at hj
    rcases hj with ⟨h2, _⟩ | ⟨h2, _⟩
    · exact .inl (h.sub j h2)
    · exact .inr h2
  · rw [hf, low_clear hi] at hfa
    simp only [Bool.or_eq_false_iff, Bool.and_eq_false_iff] at hfa
    obtain ⟨h2, h3⟩ := hfa
    rw [h1]
    have haR : R.testBit a = true := by
      rcases (h1 a).1 ha with h4 | h4
      · exact h4
      · rcases h3 with (h5 | h5) | h5
        · rw [h4.1] at h5; cases h5
        · rw [h4.2] at h5; cases h5
        · simpa using h5
    rcases h2 with h2 | h2
    · exact .inl (h.done a j haR h2 had hset)
    · have : a = i := by simpa using h2
      subst this
      exact .inr ⟨had, hset⟩
theorem metric_lt {N R R2 f f2 : Nat} (hR : R2 ≤ N) (hf : f2 < N) (h : R < R2 ∨ R = R2 ∧ f2 < f) : (N - R2) * N + f2 < (N - R) * N + f := by
  rcases h with h | ⟨rfl, h⟩
  · have h1 : (N - R2 + 1) * N ≤ (N - R) * N := Nat.mul_le_mul_right _ (by omega)
    rw [Nat.add_mul] at h1
    omega
  · omega
end Go.Id

/-! Contracts: graphs. Is a set connected? -/
namespace Go.Id
open Go

theorem components_ok {h : IH} (hB : BaseT h) {n : Nat} {E : List (Nat × Nat)} {v : Value} (hn : n ≤ 64) (hn0 : 0 < n) (hE : SlOf h 2 v E.length (eCells (castE E))) (hlen : E.length < 1000000000) (hV : EdgesOK n E) (set : Nat) (hs : set < 2 ^ n) :
    WV Proofs.Tryd.prog (.func (.func 72) #[] #[]) [.agg #[KI n, v], K64 set] h fun r h' => Ext h h' ∧ ∃ c cs, SlOf h' 1 r c cs ∧ c ≤ 64 ∧ (c = 1 ↔ Conn (adjOf E) set) := by
  have hp : 2 ^ n ≤ 2 ^ 64 := Nat.pow_le_pow_right (by omega) hn
  have hbit : ∀ {a j : Nat}, Sub a set → a.testBit j = true → j < n := by
    intro a j ha hj
    have h1 := ha j hj
    apply Classical.byContradiction; intro hh
    have h2 : set < 2 ^ j := Nat.lt_of_lt_of_le hs (Nat.pow_le_pow_right (by omega) (by omega))
    rw [Nat.testBit_lt_two_pow h2] at h1; cases h1
  have hadj : ∀ i, adjOf E i < 2 ^ 64 := fun i => adjOf_lt hn hV i 0 (by omega)
  generalize hA : adjOf E = adj at *
  refine enter (nt := 44) (rs := [.tmp 4]) Proofs.Tryd.func72 rfl rfl rfl (by simp) ?_
  simp -dsimp (maxSteps := 1000000) (disch := first | omega | (simp only [new_n, put_n]; omega) | decide +kernel | (repeat first | rw [new_n] | rw [put_n])) only [wpS, wpT, Nat.reduceEqDiff, reduceIte, Nat.reduceLT, Nat.reduceLeDiff, Nat.reduceAdd, Nat.reduceMul, Nat.reduceBEq, Int.reduceToNat, ld32, zc38, st38, ld47, zc47, st47, ld38, es38, bs38, ba38_38]
  have hS0 : Ext h ((h.new (.cells [KI n, v] 0 none)).new (.cells [K64 set] 0 none)) := ((Ext.refl h).new _).new _
  refine call (around_ok hn hn0 (hE.keep hS0.keep) hlen hV) ?_
  rintro r h1 ⟨hE1, b, hb1, hb2, rfl, hg⟩
  simp -dsimp (maxSteps := 1000000) (disch := first | omega | (simp only [new_n, put_n]; omega) | decide +kernel | (repeat first | rw [new_n] | rw [put_n])) only [wpS, wpT, Nat.reduceEqDiff, reduceIte, Nat.reduceLT, Nat.reduceLeDiff, Nat.reduceAdd, Nat.reduceMul, Nat.reduceBEq, Int.reduceToNat, ld32, zc38, st38, ld47, zc47, st47, ld38, es38, bs38, ba38_38]
  have e0 : Ext h ((h1.new (.cells [.slice none 0 0] 0 none)).put h1.n (.cells [.slice (some ⟨2 * b, 0, none⟩) n (2 * n + 1)] 0 none)) := (((hS0.trans hE1).new _).put (hS0.trans hE1).n _)
  have hn1 := hE1.n
  simp only [new_n] at hn1 hb1
  have r3 : ((h1.new (.cells [.slice none 0 0] 0 none)).put h1.n (.cells [.slice (some ⟨2 * b, 0, none⟩) n (2 * n + 1)] 0 none)).row (2 * (h.n + 1)) = some [K64 set] := by
    rw [row_even]; simp only [IH.cells]
    rw [get_put_old _ _ (by omega), get_new_old _ _ (by omega), hE1.get _ (by simp), get_new_same _ _ (by simp)]
  have r5 : ((h1.new (.cells [.slice none 0 0] 0 none)).put h1.n (.cells [.slice (some ⟨2 * b, 0, none⟩) n (2 * n + 1)] 0 none)).row (2 * h1.n) = some [.slice (some ⟨2 * b, 0, none⟩) n (2 * n + 1)] := by
    rw [row_even]; simp only [IH.cells]
    rw [get_put_same _ _ rfl]
  have rb : ((h1.new (.cells [.slice none 0 0] 0 none)).put h1.n (.cells [.slice (some ⟨2 * b, 0, none⟩) n (2 * n + 1)] 0 none)).row (2 * b) = some (adjC E n) := by
    rw [row_even]; simp only [IH.cells]
    rw [get_put_old _ _ (by omega), get_new_old _ _ (by omega), hg]
  have nS : ((h1.new (.cells [.slice none 0 0] 0 none)).put h1.n (.cells [.slice (some ⟨2 * b, 0, none⟩) n (2 * n + 1)] 0 none)).n = h1.n + 1 := rfl
  simp -dsimp (maxSteps := 1000000) (disch := first | omega | (simp only [new_n, put_n]; omega) | decide +kernel | (repeat first | rw [new_n] | rw [put_n])) only [wpS, wpT, Nat.reduceEqDiff, reduceIte, Nat.reduceLT, Nat.reduceLeDiff, Nat.reduceAdd, Nat.reduceMul, Nat.reduceBEq, Int.reduceToNat, ld32, zc38, st38, ld47, zc47, st47, ld38, es38, bs38, ba38_38, r3]
  generalize (h1.new (.cells [.slice none 0 0] 0 none)).put h1.n (.cells [.slice (some ⟨2 * b, 0, none⟩) n (2 * n + 1)] 0 none) = hS at *
  have hBS : BaseT hS := hB.ext e0
  refine loop (fun m fr h2 => ∃ (c : Nat) (out : Value) (cs : List Value), Ext hS h2 ∧ Acc h2 hS.n 1 out c cs ∧ fget fr 3 = some (ptr (2 * (h.n + 1)) 0) ∧ fget fr 5 = some (ptr (2 * h1.n) 0) ∧ fget fr 6 = some out ∧ fget fr 7 = some (K64 m) ∧ c ≤ 64 ∧ Sub m set ∧ (∀ j, j < c → m.testBit j = false) ∧
      (c = 0 ∧ m = set ∨ c = 1 ∧ (∃ k R, Low set k ∧ Flood adj set k R ∧ m = nclr set R) ∨ 2 ≤ c ∧ ¬ Conn adj set)) set
    ⟨0, .slice none 0 0, [], Ext.refl _, Acc.nil _ _ (by omega), by simp, by simp, by simp, by simp, by omega, Sub.refl _, by omega, .inl ⟨rfl, rfl⟩⟩ ?_
  rintro m fr h2 ⟨c, out, cs, hE2, hAc, f3, f5, f6, f7, hc64, hsub, hlow, hcase⟩
  have hm64 : m < 18446744073709551616 := Nat.lt_of_le_of_lt hsub.le (by omega)
  simp -dsimp (maxSteps := 1000000) (disch := first | omega | (simp only [new_n, put_n]; omega) | decide +kernel | (repeat first | rw [new_n] | rw [put_n])) only [wpS, wpT, Nat.reduceEqDiff, reduceIte, Nat.reduceLT, Nat.reduceLeDiff, Nat.reduceAdd, Nat.reduceMul, Nat.reduceBEq, Int.reduceToNat, ld32, zc38, st38, ld47, zc47, st47, ld38, es38, bs38, ba38_38, f3, f5, f6, f7]
  refine bq_intro ?_ ?_ <;> intro hc
  · simp at hc
    obtain ⟨k, hk⟩ := low_exists (u := m) (by omega)
    have hks : set.testBit k = true := hsub k hk.1
    have hkn : k < n := hbit (Sub.refl set) hks
    have elow : m &&& (18446744073709551616 - m) = 2 ^ k := low_bit hk hm64
    have e1 : (IntKind.u64.wrap (-(m : Int))) = ((18446744073709551616 - m : Nat) : Int) := by rw [wrapU]; omega
    simp -dsimp (maxSteps := 1000000) (disch := first | omega | (simp only [new_n, put_n]; omega) | decide +kernel | (repeat first | rw [new_n] | rw [put_n])) only [wpS, wpT, Nat.reduceEqDiff, reduceIte, Nat.reduceLT, Nat.reduceLeDiff, Nat.reduceAdd, Nat.reduceMul, Nat.reduceBEq, Int.reduceToNat, ld32, zc38, st38, ld47, zc47, st47, ld38, es38, bs38, ba38_38, f7, e1, elow]
    have p64 : ∀ {a : Nat}, Sub a set → a < 18446744073709551616 := fun ha => Nat.lt_of_le_of_lt ha.le (by omega)
    refine loop (fun m2 fr h3 => ∃ (part : Nat), m2 = 18446744073709551616 - part ∧ Part adj set k part ∧ Ext hS h3 ∧ Acc h3 hS.n 1 out c cs ∧ fget fr 3 = some (ptr (2 * (h.n + 1)) 0) ∧ fget fr 5 = some (ptr (2 * h1.n) 0) ∧ fget fr 6 = some out ∧ fget fr 7 = some (K64 m) ∧ fget fr 8 = some (K64 part)) (18446744073709551616 - 2 ^ k)
      ⟨2 ^ k, rfl, Part.start hks, hE2, hAc, by simp [f3], by simp [f5], by simp [f6], by simp [f7], by simp⟩ ?_
    clear f3 f5 f6 f7 hE2 hAc
    rintro m2 fr h3 ⟨part, rfl, hP, hE3, hAc, f3, f5, f6, f7, f8⟩
    have hp64 := p64 hP.sub
    simp -dsimp (maxSteps := 1000000) (disch := first | omega | (simp only [new_n, put_n]; omega) | decide +kernel | (repeat first | rw [new_n] | rw [put_n])) only [wpS, wpT, Nat.reduceEqDiff, reduceIte, Nat.reduceLT, Nat.reduceLeDiff, Nat.reduceAdd, Nat.reduceMul, Nat.reduceBEq, Int.reduceToNat, ld32, zc38, st38, ld47, zc47, st47, ld38, es38, bs38, ba38_38, f3, f5, f6, f7, f8]
    refine call (nodes_ok part) ?_
    rintro _ _ ⟨rfl, rfl⟩
    simp -dsimp (maxSteps := 1000000) (disch := first | omega | (simp only [new_n, put_n]; omega) | decide +kernel | (repeat first | rw [new_n] | rw [put_n])) only [wpS, wpT, Nat.reduceEqDiff, reduceIte, Nat.reduceLT, Nat.reduceLeDiff, Nat.reduceAdd, Nat.reduceMul, Nat.reduceBEq, Int.reduceToNat, ld32, zc38, st38, ld47, zc47, st47, ld38, es38, bs38, ba38_38]
    have t0 : (((h3.new (.cells [.int .u64 0] 0 none)).put h3.n (.cells [K64 part] 0 none)).new (.cells [K64 part] 0 none)).n = h3.n + 2 := rfl
    have tE : Ext h3 (((h3.new (.cells [.int .u64 0] 0 none)).put h3.n (.cells [K64 part] 0 none)).new (.cells [K64 part] 0 none)) := (((Ext.refl h3).new _).put (Nat.le_refl _) _).new _
    have t1 : (((h3.new (.cells [.int .u64 0] 0 none)).put h3.n (.cells [K64 part] 0 none)).new (.cells [K64 part] 0 none)).ext.get h3.n = some (.cells [K64 part] 0 none) := by
      rw [get_new_old _ _ (by simp), get_put_same _ _ rfl]
    have t2 : (((h3.new (.cells [.int .u64 0] 0 none)).put h3.n (.cells [K64 part] 0 none)).new (.cells [K64 part] 0 none)).ext.get (h3.n + 1) = some (.cells [K64 part] 0 none) := get_new_same _ _ rfl
    generalize ((h3.new (.cells [.int .u64 0] 0 none)).put h3.n (.cells [K64 part] 0 none)).new (.cells [K64 part] 0 none) = hT at *
    have h3S := hE3.n
    refine range1 rfl rfl ?_ ?_ ?_
    · decide
    · decide
    intro r y hy
    rw [t0] at hy ⊢
    refine WV.mono (nodes1_ok (h3.n + 1) (fun s hh => s < 18446744073709551616 ∧ Sub s part ∧ Ext h3 hh ∧ h3.n + 3 ≤ hh.n ∧ hh.ext.get (h3.n + 1) = some (.cells [K64 s] 0 none) ∧ hh.ext.get (h3.n + 2) = some (.loop r) ∧ ∃ cur, cur < 18446744073709551616 ∧ hh.ext.get h3.n = some (.cells [K64 cur] 0 none) ∧
      ∀ j, cur.testBit j = true ↔ part.testBit j = true ∨ ∃ i, part.testBit i = true ∧ s.testBit i = false ∧ (adj i).testBit j = true ∧ set.testBit j = true)
      (fun hh => Ext h3 hh ∧ h3.n + 3 ≤ hh.n ∧ hh.ext.get (h3.n + 2) = some (.loop r) ∧ ∃ cur, cur < 18446744073709551616 ∧ hh.ext.get h3.n = some (.cells [K64 cur] 0 none) ∧ Next adj set part cur) ?_ ?_ part ?_ ?_) ?_
    · rintro s hh ⟨j1, j2, j3, j4, j5, j6, j7⟩
      exact ⟨j1, hBS.ext (hE3.trans j3), j5⟩
    · rintro hh ⟨j1, j2, j3, j4, j5, j6, cur, j7, j8, j9⟩
      exact ⟨j3, j4, j6, cur, j7, j8, ⟨fun j => by simpa using j9 j⟩⟩
    · refine ⟨hp64, Sub.refl _, tE.new _, by simp [t0], by rw [get_new_old _ _ (by omega)]; exact t2, get_new_same _ _ t0.symm, part, hp64, by rw [get_new_old _ _ (by omega)]; exact t1, fun j => ⟨.inl, ?_⟩⟩
      rintro (h1 | ⟨i, h1, h2, _⟩)
      · exact h1
      · rw [h1] at h2; cases h2
    · rintro s i hh hl hi ⟨j1, j2, j3, j4, j5, j6, cur, j7, j8, j9⟩
      refine hy _ _ _ j6 ?_
      have hin : i < n := hbit (j2.trans hP.sub) hl.1
      have hai := hadj i
      have hEx : Ext hS (hh.put (h3.n + 2) (.loop (busyL r))) := (hE3.trans j3).put (by omega) _
      have g3 := (hEx.row (x := 2 * (h.n + 1)) (.inr (by omega))).trans r3
      have g5 := (hEx.row (x := 2 * h1.n) (.inr (by omega))).trans r5
      have gb := (hEx.row (x := 2 * b) (.inr (by omega))).trans rb
      have gq : (hh.put (h3.n + 2) (.loop (busyL r))).ext.get h3.n = some (.cells [K64 cur] 0 none) := by rw [get_put_old _ _ (by omega)]; exact j8
      have gq2 : (hh.put (h3.n + 2) (.loop (busyL r))).row (2 * h3.n) = some [K64 cur] := by rw [row_even]; simp [IH.cells, gq]
      have gL : (hh.put (h3.n + 2) (.loop (busyL r))).ext.get (h3.n + 2) = some (.loop (busyL r)) := get_put_same _ _ rfl
      have gs : (hh.put (h3.n + 2) (.loop (busyL r))).ext.get (h3.n + 1) = some (.cells [K64 s] 0 none) := by rw [get_put_old _ _ (by omega)]; exact j5
      have gE : Ext h3 (hh.put (h3.n + 2) (.loop (busyL r))) := j3.put (by omega) _
      have gn : h3.n + 3 ≤ (hh.put (h3.n + 2) (.loop (busyL r))).n := j4
      generalize hh.put (h3.n + 2) (.loop (busyL r)) = H at *
      have ab : (adjC E n)[i]? = some (K64 (adj i)) := by rw [adjC_get E hin, hA]
      have hset : set < 18446744073709551616 := by omega
      have hand : adj i &&& set ≤ set := Nat.and_le_right
      simp -dsimp (maxSteps := 1000000) (disch := first | omega | (simp only [new_n, put_n]; omega) | decide +kernel | (repeat first | rw [new_n] | rw [put_n])) only [wpS, wpT, Nat.reduceEqDiff, reduceIte, Nat.reduceLT, Nat.reduceLeDiff, Nat.reduceAdd, Nat.reduceMul, Nat.reduceBEq, Int.reduceToNat, ld32, zc38, st38, ld47, zc47, st47, ld38, es38, bs38, ba38_38, f3, f5, g3, g5, gb, gq, gq2, ab]
      have hor : cur ||| (adj i &&& set) < 2 ^ 64 := Nat.or_lt_two_pow (by omega) (by omega)
      refine ⟨rfl, by rw [get_put_old _ _ (by omega)]; exact gL, rfl, ?_, ?_, ?_, ?_, ?_, ?_, ?_⟩
      · rw [get_put_old _ _ (by omega), get_put_old _ _ (by omega)]; exact gs
      · exact Nat.lt_of_le_of_lt Nat.and_le_left j1
      · intro j hj
        rw [low_clear hl] at hj
        simp at hj
        exact j2 j hj.1
      · exact ((gE.put (Nat.le_refl _) _).put (by omega) _).put (by omega) _
      · simp; omega
      · exact get_put_same _ _ rfl
      · refine ⟨cur ||| (adj i &&& set), by omega, ?_, fun j => ?_⟩
        · rw [get_put_old _ _ (by omega)]; exact get_put_same _ _ rfl
        · rw [Nat.testBit_or, Nat.testBit_and, Bool.or_eq_true, Bool.and_eq_true, j9 j]
          constructor
          · rintro ((h1 | ⟨i', h1, h2, h3⟩) | ⟨h1, h2⟩)
            · exact .inl h1
            · exact .inr ⟨i', h1, by rw [low_clear hl, h2]; rfl, h3⟩
            · exact .inr ⟨i, j2 i hl.1, by rw [low_clear hl]; simp, h1, h2⟩
          · rintro (h1 | ⟨i', h1, h2, h3, h4⟩)
            · exact .inl (.inl h1)
            · by_cases hii : i' = i
              · subst hii; exact .inr ⟨h3, h4⟩
              · refine .inl (.inr ⟨i', h1, ?_, h3, h4⟩)
                rw [low_clear hl] at h2
                simpa [hii] using h2
    · rintro _ hh ⟨j3, j4, j6, cur, j7, j8, j9⟩
      refine ⟨j6, ?_⟩
      have dE : Ext h3 (hh.put (h3.n + 2) .dead) := j3.put (by omega) _
      have dq : (hh.put (h3.n + 2) .dead).row (2 * h3.n) = some [K64 cur] := by rw [row_even]; simp only [IH.cells]; rw [get_put_old _ _ (by omega), j8]
      generalize hh.put (h3.n + 2) .dead = h4 at *
      obtain ⟨hP2, hsub2⟩ := hP.next j9
      by_cases hcp : cur = part
      · subst hcp
        have hF := hP.flood j9
        have hnc : nclr m cur ≤ m := Nat.le_of_lt_succ (by
          have h1 : Sub (nclr m cur) m := fun j hj => by rw [testBit_nclr] at hj; simp at hj; exact hj.1
          have := h1.le; omega)
        have hck : c ≤ k := by
          apply Classical.byContradiction; intro hh
          have := hlow k (by omega); rw [hk.1] at this; cases this
        have hE4 := hE3.trans dE
        have hn4 := hE4.n
        obtain ⟨out', h5, hap, hAc', hG, hE5⟩ := (hAc.ext dE).app1 (P := Proofs.Tryd.prog) (t := 38) ap38 (x := K64 cur) rfl (by omega) hn4 hE4 (Nat.le_refl _)
        simp -dsimp (maxSteps := 1000000) (disch := first | omega | (simp only [new_n, put_n]; omega) | decide +kernel | (repeat first | rw [new_n] | rw [put_n])) only [wpS, wpT, Nat.reduceEqDiff, reduceIte, Nat.reduceLT, Nat.reduceLeDiff, Nat.reduceAdd, Nat.reduceMul, Nat.reduceBEq, Int.reduceToNat, ld32, zc38, st38, ld47, zc47, st47, ld38, es38, bs38, ba38_38, f6, f7, f8, dq, hap]
        have hkm : (nclr m cur).testBit k = false := by rw [testBit_nclr, hP.has]; simp
        have hne : nclr m cur ≠ m := by
          intro hh; rw [hh, hk.1] at hkm; cases hkm
        have hS2 : Sub (nclr m cur) m := fun j hj => by rw [testBit_nclr] at hj; simp at hj; exact hj.1
        refine ⟨nclr m cur, by omega, c + 1, out', _, hE5, hAc', by simp [f3], by simp [f5], by simp, by simp, by omega, hS2.trans hsub, ?_, ?_⟩
        · intro j hj
          cases hb : (nclr m cur).testBit j with
          | false => rfl
          | true =>
            have h1 := hS2 j hb
            rcases Nat.lt_trichotomy j k with h2 | h2 | h2
            · have := hk.2 j h2; rw [h1] at this; cases this
            · subst h2; rw [hkm] at hb; cases hb
            · omega
        · rcases hcase with ⟨rfl, rfl⟩ | ⟨rfl, k1, R, h1, h2, h3⟩ | ⟨h1, h2⟩
          · exact .inr (.inl ⟨rfl, k, cur, hk, hF, rfl⟩)
          · refine .inr (.inr ⟨by omega, fun hc => ?_⟩)
            have := (h2.conn h1).1 hc
            subst this
            have h4 := hk.1
            rw [h3, testBit_nclr] at h4
            simp at h4
          · exact .inr (.inr ⟨by omega, h2⟩)
      · have hlt : part < cur := by
          have := hsub2.le; omega
        simp -dsimp (maxSteps := 1000000) (disch := first | omega | (simp only [new_n, put_n]; omega) | decide +kernel | (repeat first | rw [new_n] | rw [put_n])) only [wpS, wpT, Nat.reduceEqDiff, reduceIte, Nat.reduceLT, Nat.reduceLeDiff, Nat.reduceAdd, Nat.reduceMul, Nat.reduceBEq, Int.reduceToNat, ld32, zc38, st38, ld47, zc47, st47, ld38, es38, bs38, ba38_38, f8, dq]
        exact ⟨18446744073709551616 - cur, by omega, cur, rfl, hP2, hE3.trans dE, hAc.ext dE, by simp [f3], by simp [f5], by simp [f6], by simp [f7], by simp⟩
  · simp at hc
    subst hc
    simp -dsimp (maxSteps := 1000000) (disch := first | omega | (simp only [new_n, put_n]; omega) | decide +kernel | (repeat first | rw [new_n] | rw [put_n])) only [wpS, wpT, Nat.reduceEqDiff, reduceIte, Nat.reduceLT, Nat.reduceLeDiff, Nat.reduceAdd, Nat.reduceMul, Nat.reduceBEq, Int.reduceToNat, ld32, zc38, st38, ld47, zc47, st47, ld38, es38, bs38, ba38_38, f6]
    refine ⟨e0.trans hE2, c, cs, hAc.sl, hc64, ?_⟩
    rcases hcase with ⟨rfl, h0⟩ | ⟨rfl, k, R, h1, h2, h3⟩ | ⟨h1, h2⟩
    · refine ⟨fun x => (by omega), ?_⟩
      rintro ⟨k, hk, _⟩
      have := hk.pos; omega
    · refine ⟨fun _ => (h2.conn h1).2 ?_, fun _ => rfl⟩
      exact h2.sub.eq (fun j hj => by
        have h4 : (nclr set R).testBit j = false := by rw [← h3]; simp
        rw [testBit_nclr] at h4
        simpa [hj] using h4)
    · exact ⟨fun x => (by omega), fun x => absurd x h2⟩
end Go.Id
