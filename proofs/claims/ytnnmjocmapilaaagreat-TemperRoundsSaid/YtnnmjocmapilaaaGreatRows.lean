/-
  No cell of these rows narrows 'for every input' (looked for: loops, veiled, ifaces, maps, wideKeys, modest, calm, conditions, laid).
  DERIVED. THE GIVEN ROWS OF THIS SEAT. 4 by the template 'for every input the law returns true; each argument reads behind the call as it read before'; 0 by the template 'total and deterministic' (their statements: YtnnmjocmapilaaaGreatTotals.lean).
  GIVEN WITH THE SEED: the statements are not yours to turn. If you find one false, say at which input.
  Laid BY PROGRAM, IN A SANDBOX (cutbox-rows.mjs): the forced cells as the released guide's own fill.sh prints them over the translation 6657abd5bec267c1… (all of the seat's roots in one cut). By AI agents, Wed Nov 11 2026. No macro, syntax, notation, axiom, sorry.
-/
import Derived.Test.YtnnmjocmapilaaaGreatChecked
import GoSem.Claim
import GoSem.ClaimJoined
import GoSem.ClaimMapViews
import Derived.JoinedTies
import Derived.KernelRfl
namespace Go.Proofs.YtnnmjocmapilaaaGreat
/- THE CELL 'sum', in the pinned program and in every row, IS THE sha256 OF THE DUMP (.gsa) THAT YtnnmjocmapilaaaGreatProg.lean LOADS. Nothing in Lean hashes anything: it is a label: what it is worth is what the hold of that sum in a sandbox is worth. -/
noncomputable def Tryz.pinned : Pinned := { name := "ytnnmjocmapilaaagreat", sum := "6657abd5bec267c1946249e33d7c84f572a7cb80b3b03d96cc9b7895229dc5da", checked := Tryz.checked }
namespace Rows
def none {H : Type} : Left H := { results := [], args := [] }

/-- 'wardmotelaw34.TemperRounds': WHATEVER THE INPUT: true; the input reads as it did. -/
def temperRoundsSpec : ChangeSpec := { name := "temperRounds", fn := fun _ => fun
  | [d1, d2, d3, d4] => { results := [.lit (.bool true)], args := [d1, d2, d3, d4] }
  | _ => none }
def temperRoundsRow : OpenClaim := { program := "ytnnmjocmapilaaagreat", sum := "6657abd5bec267c1946249e33d7c84f572a7cb80b3b03d96cc9b7895229dc5da", func := "wardmote/wardmotelaw34.TemperRounds", spec := "temperRounds", inPlace := ["math/bits.Sub64", "math/bits.Add64"], unfollowed := true, recurses := true, named := ["math/bits.divideError", "math/bits.overflowError"], apart := false }
def TemperRoundsSaid : Prop := temperRoundsRow.holds Tryz.pinned (OpenSpec.ofChange temperRoundsSpec)

/-- ITS FALSE NEIGHBOUR: 'it returns false'. Refute it at one input. -/
def temperRoundsWrong : ChangeSpec := { name := "temperRounds", fn := fun _ => fun
  | [d1, d2, d3, d4] => { results := [.lit (.bool false)], args := [d1, d2, d3, d4] }
  | _ => none }
def TemperRoundsWrongFalsely : Prop := temperRoundsRow.holds Tryz.pinned (OpenSpec.ofChange temperRoundsWrong)

/-- 'wardmotelaw38.OutlierOdds': WHATEVER THE INPUT: true; the input reads as it did. -/
def outlierOddsSpec : ChangeSpec := { name := "outlierOdds", fn := fun _ => fun
  | [d1, d2, d3, d4, d5, d6, d7, d8] => { results := [.lit (.bool true)], args := [d1, d2, d3, d4, d5, d6, d7, d8] }
  | _ => none }
def outlierOddsRow : OpenClaim := { program := "ytnnmjocmapilaaagreat", sum := "6657abd5bec267c1946249e33d7c84f572a7cb80b3b03d96cc9b7895229dc5da", func := "wardmote/wardmotelaw38.OutlierOdds", spec := "outlierOdds", inPlace := ["math/bits.Sub64", "math/bits.Add64"], unfollowed := true, recurses := true, named := ["math/bits.divideError", "math/bits.overflowError"], apart := false }
def OutlierOddsSaid : Prop := outlierOddsRow.holds Tryz.pinned (OpenSpec.ofChange outlierOddsSpec)

/-- ITS FALSE NEIGHBOUR: 'it returns false'. Refute it at one input. -/
def outlierOddsWrong : ChangeSpec := { name := "outlierOdds", fn := fun _ => fun
  | [d1, d2, d3, d4, d5, d6, d7, d8] => { results := [.lit (.bool false)], args := [d1, d2, d3, d4, d5, d6, d7, d8] }
  | _ => none }
def OutlierOddsWrongFalsely : Prop := outlierOddsRow.holds Tryz.pinned (OpenSpec.ofChange outlierOddsWrong)

/-- 'wardmotelaw38.OutlierValid': WHATEVER THE INPUT: true; the input reads as it did. -/
def outlierValidSpec : ChangeSpec := { name := "outlierValid", fn := fun _ => fun
  | [d1, d2, d3, d4, d5] => { results := [.lit (.bool true)], args := [d1, d2, d3, d4, d5] }
  | _ => none }
def outlierValidRow : OpenClaim := { program := "ytnnmjocmapilaaagreat", sum := "6657abd5bec267c1946249e33d7c84f572a7cb80b3b03d96cc9b7895229dc5da", func := "wardmote/wardmotelaw38.OutlierValid", spec := "outlierValid", inPlace := ["math/bits.Sub64", "math/bits.Add64"], unfollowed := true, recurses := true, named := ["math/bits.divideError", "math/bits.overflowError"], apart := false }
def OutlierValidSaid : Prop := outlierValidRow.holds Tryz.pinned (OpenSpec.ofChange outlierValidSpec)

/-- ITS FALSE NEIGHBOUR: 'it returns false'. Refute it at one input. -/
def outlierValidWrong : ChangeSpec := { name := "outlierValid", fn := fun _ => fun
  | [d1, d2, d3, d4, d5] => { results := [.lit (.bool false)], args := [d1, d2, d3, d4, d5] }
  | _ => none }
def OutlierValidWrongFalsely : Prop := outlierValidRow.holds Tryz.pinned (OpenSpec.ofChange outlierValidWrong)

/-- 'wardmotelaw38.OutlierRises': WHATEVER THE INPUT: true; the input reads as it did. -/
def outlierRisesSpec : ChangeSpec := { name := "outlierRises", fn := fun _ => fun
  | [d1, d2, d3, d4, d5, d6, d7] => { results := [.lit (.bool true)], args := [d1, d2, d3, d4, d5, d6, d7] }
  | _ => none }
def outlierRisesRow : OpenClaim := { program := "ytnnmjocmapilaaagreat", sum := "6657abd5bec267c1946249e33d7c84f572a7cb80b3b03d96cc9b7895229dc5da", func := "wardmote/wardmotelaw38.OutlierRises", spec := "outlierRises", inPlace := ["math/bits.Sub64", "math/bits.Add64"], unfollowed := true, recurses := true, named := ["math/bits.divideError", "math/bits.overflowError"], apart := false }
def OutlierRisesSaid : Prop := outlierRisesRow.holds Tryz.pinned (OpenSpec.ofChange outlierRisesSpec)

/-- ITS FALSE NEIGHBOUR: 'it returns false'. Refute it at one input. -/
def outlierRisesWrong : ChangeSpec := { name := "outlierRises", fn := fun _ => fun
  | [d1, d2, d3, d4, d5, d6, d7] => { results := [.lit (.bool false)], args := [d1, d2, d3, d4, d5, d6, d7] }
  | _ => none }
def OutlierRisesWrongFalsely : Prop := outlierRisesRow.holds Tryz.pinned (OpenSpec.ofChange outlierRisesWrong)

/- THE SECOND FORM. 'bulk': how many values and letters a reading holds, each counted each time it is reached (what is shared counts as often as it is met; a slice's spare places count too). A statement '..UptoSaid' is the law's where the arguments, and the package variables that the reading takes, are together of bulk at most 1048576: NARROWER than '..Said'. Prove '..Said' where nothing that the law and all that it calls make is longer than what came in: it says more and counts as full. Else prove '..UptoSaid'. A law counts once. -/
mutual
def uptoBulk {H : Type} : DataW H → Nat
  | .lit (.string bytes) => bytes.length + 1
  | .lit _ => 1
  | .nil => 1
  | .ptr d => uptoBulk d + 1
  | .slice elems spare => uptoBulkAll elems + uptoBulkAll spare + 1
  | .agg parts => uptoBulkAll parts + 1
  | .iface _ d => uptoBulk d + 1
  | .map entries => uptoBulkEntries entries + 1
  | .held _ => 1
def uptoBulkAll {H : Type} : List (DataW H) → Nat
  | [] => 0
  | d :: r => uptoBulk d + uptoBulkAll r
def uptoBulkEntries {H : Type} : List (Lit × DataW H) → Nat
  | [] => 0
  | x :: r => uptoBulkEntry x + uptoBulkEntries r
def uptoBulkEntry {H : Type} : Lit × DataW H → Nat
  | (.string bytes, d) => bytes.length + uptoBulk d + 1
  | (_, d) => uptoBulk d + 1
 end
def uptoSmall : (H : Type) → List (DataW H) → Bool := fun _ ds => decide (uptoBulkAll ds ≤ 1048576)
def OpenSpec.upto (s : _root_.Go.ChangeSpec) : _root_.Go.OpenSpec := { _root_.Go.OpenSpec.ofChange s with cond := some uptoSmall }

/-- 'wardmotelaw34.TemperRounds', WHERE WHAT IT READS IS OF BULK AT MOST 1048576: true; the input reads as it did. -/
def temperRoundsUptoRow : OpenClaim := { program := "ytnnmjocmapilaaagreat", sum := "6657abd5bec267c1946249e33d7c84f572a7cb80b3b03d96cc9b7895229dc5da", func := "wardmote/wardmotelaw34.TemperRounds", spec := "temperRounds", inPlace := ["math/bits.Sub64", "math/bits.Add64"], unfollowed := true, recurses := true, named := ["math/bits.divideError", "math/bits.overflowError"], apart := false, narrowed := true }
def TemperRoundsUptoSaid : Prop := temperRoundsUptoRow.holds Tryz.pinned (OpenSpec.upto temperRoundsSpec)

/-- 'wardmotelaw38.OutlierOdds', WHERE WHAT IT READS IS OF BULK AT MOST 1048576: true; the input reads as it did. -/
def outlierOddsUptoRow : OpenClaim := { program := "ytnnmjocmapilaaagreat", sum := "6657abd5bec267c1946249e33d7c84f572a7cb80b3b03d96cc9b7895229dc5da", func := "wardmote/wardmotelaw38.OutlierOdds", spec := "outlierOdds", inPlace := ["math/bits.Sub64", "math/bits.Add64"], unfollowed := true, recurses := true, named := ["math/bits.divideError", "math/bits.overflowError"], apart := false, narrowed := true }
def OutlierOddsUptoSaid : Prop := outlierOddsUptoRow.holds Tryz.pinned (OpenSpec.upto outlierOddsSpec)

/-- 'wardmotelaw38.OutlierValid', WHERE WHAT IT READS IS OF BULK AT MOST 1048576: true; the input reads as it did. -/
def outlierValidUptoRow : OpenClaim := { program := "ytnnmjocmapilaaagreat", sum := "6657abd5bec267c1946249e33d7c84f572a7cb80b3b03d96cc9b7895229dc5da", func := "wardmote/wardmotelaw38.OutlierValid", spec := "outlierValid", inPlace := ["math/bits.Sub64", "math/bits.Add64"], unfollowed := true, recurses := true, named := ["math/bits.divideError", "math/bits.overflowError"], apart := false, narrowed := true }
def OutlierValidUptoSaid : Prop := outlierValidUptoRow.holds Tryz.pinned (OpenSpec.upto outlierValidSpec)

/-- 'wardmotelaw38.OutlierRises', WHERE WHAT IT READS IS OF BULK AT MOST 1048576: true; the input reads as it did. -/
def outlierRisesUptoRow : OpenClaim := { program := "ytnnmjocmapilaaagreat", sum := "6657abd5bec267c1946249e33d7c84f572a7cb80b3b03d96cc9b7895229dc5da", func := "wardmote/wardmotelaw38.OutlierRises", spec := "outlierRises", inPlace := ["math/bits.Sub64", "math/bits.Add64"], unfollowed := true, recurses := true, named := ["math/bits.divideError", "math/bits.overflowError"], apart := false, narrowed := true }
def OutlierRisesUptoSaid : Prop := outlierRisesUptoRow.holds Tryz.pinned (OpenSpec.upto outlierRisesSpec)

end Rows
end Go.Proofs.YtnnmjocmapilaaaGreat
