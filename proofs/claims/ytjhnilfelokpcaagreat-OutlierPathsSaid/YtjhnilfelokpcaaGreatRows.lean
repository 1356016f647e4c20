/-
  No cell of these rows narrows 'for every input' (looked for: loops, veiled, ifaces, maps, wideKeys, modest, calm, conditions, laid).
  DERIVED. THE GIVEN ROWS OF THIS SEAT. 7 by the template 'for every input the law returns true; each argument reads behind the call as it read before'; 0 by the template 'total and deterministic' (their statements: YtjhnilfelokpcaaGreatTotals.lean).
  GIVEN WITH THE SEED: the statements are not yours to turn. If you find one false, say at which input.
  Laid BY PROGRAM, IN A SANDBOX (cutbox-rows.mjs): the forced cells as the released guide's own fill.sh prints them over the translation f14ba50e8c5bdc91… (all of the seat's roots in one cut). By AI agents, Wed Nov 11 2026. No macro, syntax, notation, axiom, sorry.
-/
import Derived.Test.YtjhnilfelokpcaaGreatChecked
import GoSem.Claim
import GoSem.ClaimJoined
import GoSem.ClaimMapViews
import Derived.JoinedTies
import Derived.KernelRfl
namespace Go.Proofs.YtjhnilfelokpcaaGreat
/- THE CELL 'sum', in the pinned program and in every row, IS THE sha256 OF THE DUMP (.gsa) THAT YtjhnilfelokpcaaGreatProg.lean LOADS. Nothing in Lean hashes anything: it is a label: what it is worth is what the hold of that sum in a sandbox is worth. -/
noncomputable def Tryz.pinned : Pinned := { name := "ytjhnilfelokpcaagreat", sum := "f14ba50e8c5bdc916c82403475325f2977372ee031619874b908e21b2c4960ec", checked := Tryz.checked }
namespace Rows
def none {H : Type} : Left H := { results := [], args := [] }

/-- 'wardmotelaw34.TemperTargets': WHATEVER THE INPUT: true; the input reads as it did. -/
def temperTargetsSpec : ChangeSpec := { name := "temperTargets", fn := fun _ => fun
  | [d1, d2, d3, d4, d5, d6] => { results := [.lit (.bool true)], args := [d1, d2, d3, d4, d5, d6] }
  | _ => none }
def temperTargetsRow : OpenClaim := { program := "ytjhnilfelokpcaagreat", sum := "f14ba50e8c5bdc916c82403475325f2977372ee031619874b908e21b2c4960ec", func := "wardmote/wardmotelaw34.TemperTargets", spec := "temperTargets", inPlace := ["math/bits.Sub64", "math/bits.Add64"], unfollowed := true, recurses := true, named := ["math/bits.divideError", "math/bits.overflowError"], apart := false }
def TemperTargetsSaid : Prop := temperTargetsRow.holds Tryz.pinned (OpenSpec.ofChange temperTargetsSpec)

/-- ITS FALSE NEIGHBOUR: 'it returns false'. Refute it at one input. -/
def temperTargetsWrong : ChangeSpec := { name := "temperTargets", fn := fun _ => fun
  | [d1, d2, d3, d4, d5, d6] => { results := [.lit (.bool false)], args := [d1, d2, d3, d4, d5, d6] }
  | _ => none }
def TemperTargetsWrongFalsely : Prop := temperTargetsRow.holds Tryz.pinned (OpenSpec.ofChange temperTargetsWrong)

/-- 'wardmotelaw34.TemperLevels': WHATEVER THE INPUT: true; the input reads as it did. -/
def temperLevelsSpec : ChangeSpec := { name := "temperLevels", fn := fun _ => fun
  | [d1, d2, d3, d4] => { results := [.lit (.bool true)], args := [d1, d2, d3, d4] }
  | _ => none }
def temperLevelsRow : OpenClaim := { program := "ytjhnilfelokpcaagreat", sum := "f14ba50e8c5bdc916c82403475325f2977372ee031619874b908e21b2c4960ec", func := "wardmote/wardmotelaw34.TemperLevels", spec := "temperLevels", inPlace := ["math/bits.Sub64", "math/bits.Add64"], unfollowed := true, recurses := true, named := ["math/bits.divideError", "math/bits.overflowError"], apart := false }
def TemperLevelsSaid : Prop := temperLevelsRow.holds Tryz.pinned (OpenSpec.ofChange temperLevelsSpec)

/-- ITS FALSE NEIGHBOUR: 'it returns false'. Refute it at one input. -/
def temperLevelsWrong : ChangeSpec := { name := "temperLevels", fn := fun _ => fun
  | [d1, d2, d3, d4] => { results := [.lit (.bool false)], args := [d1, d2, d3, d4] }
  | _ => none }
def TemperLevelsWrongFalsely : Prop := temperLevelsRow.holds Tryz.pinned (OpenSpec.ofChange temperLevelsWrong)

/-- 'wardmotelaw34.TemperRounds': WHATEVER THE INPUT: true; the input reads as it did. -/
def temperRoundsSpec : ChangeSpec := { name := "temperRounds", fn := fun _ => fun
  | [d1, d2, d3, d4] => { results := [.lit (.bool true)], args := [d1, d2, d3, d4] }
  | _ => none }
def temperRoundsRow : OpenClaim := { program := "ytjhnilfelokpcaagreat", sum := "f14ba50e8c5bdc916c82403475325f2977372ee031619874b908e21b2c4960ec", func := "wardmote/wardmotelaw34.TemperRounds", spec := "temperRounds", inPlace := ["math/bits.Sub64", "math/bits.Add64"], unfollowed := true, recurses := true, named := ["math/bits.divideError", "math/bits.overflowError"], apart := false }
def TemperRoundsSaid : Prop := temperRoundsRow.holds Tryz.pinned (OpenSpec.ofChange temperRoundsSpec)

/-- ITS FALSE NEIGHBOUR: 'it returns false'. Refute it at one input. -/
def temperRoundsWrong : ChangeSpec := { name := "temperRounds", fn := fun _ => fun
  | [d1, d2, d3, d4] => { results := [.lit (.bool false)], args := [d1, d2, d3, d4] }
  | _ => none }
def TemperRoundsWrongFalsely : Prop := temperRoundsRow.holds Tryz.pinned (OpenSpec.ofChange temperRoundsWrong)

/-- 'wardmotelaw38.OutlierPaths': WHATEVER THE INPUT: true; the input reads as it did. -/
def outlierPathsSpec : ChangeSpec := { name := "outlierPaths", fn := fun _ => fun
  | [d1, d2, d3, d4, d5] => { results := [.lit (.bool true)], args := [d1, d2, d3, d4, d5] }
  | _ => none }
def outlierPathsRow : OpenClaim := { program := "ytjhnilfelokpcaagreat", sum := "f14ba50e8c5bdc916c82403475325f2977372ee031619874b908e21b2c4960ec", func := "wardmote/wardmotelaw38.OutlierPaths", spec := "outlierPaths", inPlace := ["math/bits.Sub64", "math/bits.Add64"], unfollowed := true, recurses := true, named := ["math/bits.divideError", "math/bits.overflowError"], apart := false }
def OutlierPathsSaid : Prop := outlierPathsRow.holds Tryz.pinned (OpenSpec.ofChange outlierPathsSpec)

/-- ITS FALSE NEIGHBOUR: 'it returns false'. Refute it at one input. -/
def outlierPathsWrong : ChangeSpec := { name := "outlierPaths", fn := fun _ => fun
  | [d1, d2, d3, d4, d5] => { results := [.lit (.bool false)], args := [d1, d2, d3, d4, d5] }
  | _ => none }
def OutlierPathsWrongFalsely : Prop := outlierPathsRow.holds Tryz.pinned (OpenSpec.ofChange outlierPathsWrong)

/-- 'wardmotelaw38.OutlierTells': WHATEVER THE INPUT: true; the input reads as it did. -/
def outlierTellsSpec : ChangeSpec := { name := "outlierTells", fn := fun _ => fun
  | [d1, d2, d3, d4] => { results := [.lit (.bool true)], args := [d1, d2, d3, d4] }
  | _ => none }
def outlierTellsRow : OpenClaim := { program := "ytjhnilfelokpcaagreat", sum := "f14ba50e8c5bdc916c82403475325f2977372ee031619874b908e21b2c4960ec", func := "wardmote/wardmotelaw38.OutlierTells", spec := "outlierTells", inPlace := ["math/bits.Sub64", "math/bits.Add64"], unfollowed := true, recurses := true, named := ["math/bits.divideError", "math/bits.overflowError"], apart := false }
def OutlierTellsSaid : Prop := outlierTellsRow.holds Tryz.pinned (OpenSpec.ofChange outlierTellsSpec)

/-- ITS FALSE NEIGHBOUR: 'it returns false'. Refute it at one input. -/
def outlierTellsWrong : ChangeSpec := { name := "outlierTells", fn := fun _ => fun
  | [d1, d2, d3, d4] => { results := [.lit (.bool false)], args := [d1, d2, d3, d4] }
  | _ => none }
def OutlierTellsWrongFalsely : Prop := outlierTellsRow.holds Tryz.pinned (OpenSpec.ofChange outlierTellsWrong)

/-- 'wardmotelaw38.OutlierWays': WHATEVER THE INPUT: true; the input reads as it did. -/
def outlierWaysSpec : ChangeSpec := { name := "outlierWays", fn := fun _ => fun
  | [d1, d2, d3, d4] => { results := [.lit (.bool true)], args := [d1, d2, d3, d4] }
  | _ => none }
def outlierWaysRow : OpenClaim := { program := "ytjhnilfelokpcaagreat", sum := "f14ba50e8c5bdc916c82403475325f2977372ee031619874b908e21b2c4960ec", func := "wardmote/wardmotelaw38.OutlierWays", spec := "outlierWays", inPlace := ["math/bits.Sub64", "math/bits.Add64"], unfollowed := true, recurses := true, named := ["math/bits.divideError", "math/bits.overflowError"], apart := false }
def OutlierWaysSaid : Prop := outlierWaysRow.holds Tryz.pinned (OpenSpec.ofChange outlierWaysSpec)

/-- ITS FALSE NEIGHBOUR: 'it returns false'. Refute it at one input. -/
def outlierWaysWrong : ChangeSpec := { name := "outlierWays", fn := fun _ => fun
  | [d1, d2, d3, d4] => { results := [.lit (.bool false)], args := [d1, d2, d3, d4] }
  | _ => none }
def OutlierWaysWrongFalsely : Prop := outlierWaysRow.holds Tryz.pinned (OpenSpec.ofChange outlierWaysWrong)

/-- 'wardmotelaw38.OutlierLists': WHATEVER THE INPUT: true; the input reads as it did. -/
def outlierListsSpec : ChangeSpec := { name := "outlierLists", fn := fun _ => fun
  | [d1, d2, d3, d4, d5, d6, d7] => { results := [.lit (.bool true)], args := [d1, d2, d3, d4, d5, d6, d7] }
  | _ => none }
def outlierListsRow : OpenClaim := { program := "ytjhnilfelokpcaagreat", sum := "f14ba50e8c5bdc916c82403475325f2977372ee031619874b908e21b2c4960ec", func := "wardmote/wardmotelaw38.OutlierLists", spec := "outlierLists", inPlace := ["math/bits.Sub64", "math/bits.Add64"], unfollowed := true, recurses := true, named := ["math/bits.divideError", "math/bits.overflowError"], apart := false }
def OutlierListsSaid : Prop := outlierListsRow.holds Tryz.pinned (OpenSpec.ofChange outlierListsSpec)

/-- ITS FALSE NEIGHBOUR: 'it returns false'. Refute it at one input. -/
def outlierListsWrong : ChangeSpec := { name := "outlierLists", fn := fun _ => fun
  | [d1, d2, d3, d4, d5, d6, d7] => { results := [.lit (.bool false)], args := [d1, d2, d3, d4, d5, d6, d7] }
  | _ => none }
def OutlierListsWrongFalsely : Prop := outlierListsRow.holds Tryz.pinned (OpenSpec.ofChange outlierListsWrong)

/- THE SECOND FORM. 'bulk': how many values and letters a reading holds, each counted each time it is reached (what is shared counts as often as it is met; a slice's spare places count too). A statement '..UptoSaid' is the law's where the arguments, and the package variables that the reading takes, are together of bulk at most 1048576: NARROWER than '..Said'. Prove '..Said' where nothing that the law and all that it calls make is longer than what came in: it says more and counts as full. Else prove '..UptoSaid'. A law counts once. -/
mutual
def uptoBulk {H : Type} : DataW H → Nat
  | .lit (.string bytes) => bytes.length + 1
  | .lit _ => 1
  | .nil => 1
  | .ptr d => uptoBulk d + 1
  | .slice elems spare => uptoBulkAll elems + uptoBulkAll spare + 1
  | .agg parts => uptoBulkAll parts + 1
  | .iface _ d => uptoBulk d + 1
  | .map entries => uptoBulkEntries entries + 1
  | .held _ => 1
def uptoBulkAll {H : Type} : List (DataW H) → Nat
  | [] => 0
  | d :: r => uptoBulk d + uptoBulkAll r
def uptoBulkEntries {H : Type} : List (Lit × DataW H) → Nat
  | [] => 0
  | x :: r => uptoBulkEntry x + uptoBulkEntries r
def uptoBulkEntry {H : Type} : Lit × DataW H → Nat
  | (.string bytes, d) => bytes.length + uptoBulk d + 1
  | (_, d) => uptoBulk d + 1
 end
def uptoSmall : (H : Type) → List (DataW H) → Bool := fun _ ds => decide (uptoBulkAll ds ≤ 1048576)
def OpenSpec.upto (s : _root_.Go.ChangeSpec) : _root_.Go.OpenSpec := { _root_.Go.OpenSpec.ofChange s with cond := some uptoSmall }

/-- 'wardmotelaw34.TemperTargets', WHERE WHAT IT READS IS OF BULK AT MOST 1048576: true; the input reads as it did. -/
def temperTargetsUptoRow : OpenClaim := { program := "ytjhnilfelokpcaagreat", sum := "f14ba50e8c5bdc916c82403475325f2977372ee031619874b908e21b2c4960ec", func := "wardmote/wardmotelaw34.TemperTargets", spec := "temperTargets", inPlace := ["math/bits.Sub64", "math/bits.Add64"], unfollowed := true, recurses := true, named := ["math/bits.divideError", "math/bits.overflowError"], apart := false, narrowed := true }
def TemperTargetsUptoSaid : Prop := temperTargetsUptoRow.holds Tryz.pinned (OpenSpec.upto temperTargetsSpec)

/-- 'wardmotelaw34.TemperLevels', WHERE WHAT IT READS IS OF BULK AT MOST 1048576: true; the input reads as it did. -/
def temperLevelsUptoRow : OpenClaim := { program := "ytjhnilfelokpcaagreat", sum := "f14ba50e8c5bdc916c82403475325f2977372ee031619874b908e21b2c4960ec", func := "wardmote/wardmotelaw34.TemperLevels", spec := "temperLevels", inPlace := ["math/bits.Sub64", "math/bits.Add64"], unfollowed := true, recurses := true, named := ["math/bits.divideError", "math/bits.overflowError"], apart := false, narrowed := true }
def TemperLevelsUptoSaid : Prop := temperLevelsUptoRow.holds Tryz.pinned (OpenSpec.upto temperLevelsSpec)

/-- 'wardmotelaw34.TemperRounds', WHERE WHAT IT READS IS OF BULK AT MOST 1048576: true; the input reads as it did. -/
def temperRoundsUptoRow : OpenClaim := { program := "ytjhnilfelokpcaagreat", sum := "f14ba50e8c5bdc916c82403475325f2977372ee031619874b908e21b2c4960ec", func := "wardmote/wardmotelaw34.TemperRounds", spec := "temperRounds", inPlace := ["math/bits.Sub64", "math/bits.Add64"], unfollowed := true, recurses := true, named := ["math/bits.divideError", "math/bits.overflowError"], apart := false, narrowed := true }
def TemperRoundsUptoSaid : Prop := temperRoundsUptoRow.holds Tryz.pinned (OpenSpec.upto temperRoundsSpec)

/-- 'wardmotelaw38.OutlierPaths', WHERE WHAT IT READS IS OF BULK AT MOST 1048576: true; the input reads as it did. -/
def outlierPathsUptoRow : OpenClaim := { program := "ytjhnilfelokpcaagreat", sum := "f14ba50e8c5bdc916c82403475325f2977372ee031619874b908e21b2c4960ec", func := "wardmote/wardmotelaw38.OutlierPaths", spec := "outlierPaths", inPlace := ["math/bits.Sub64", "math/bits.Add64"], unfollowed := true, recurses := true, named := ["math/bits.divideError", "math/bits.overflowError"], apart := false, narrowed := true }
def OutlierPathsUptoSaid : Prop := outlierPathsUptoRow.holds Tryz.pinned (OpenSpec.upto outlierPathsSpec)

/-- 'wardmotelaw38.OutlierTells', WHERE WHAT IT READS IS OF BULK AT MOST 1048576: true; the input reads as it did. -/
def outlierTellsUptoRow : OpenClaim := { program := "ytjhnilfelokpcaagreat", sum := "f14ba50e8c5bdc916c82403475325f2977372ee031619874b908e21b2c4960ec", func := "wardmote/wardmotelaw38.OutlierTells", spec := "outlierTells", inPlace := ["math/bits.Sub64", "math/bits.Add64"], unfollowed := true, recurses := true, named := ["math/bits.divideError", "math/bits.overflowError"], apart := false, narrowed := true }
def OutlierTellsUptoSaid : Prop := outlierTellsUptoRow.holds Tryz.pinned (OpenSpec.upto outlierTellsSpec)

/-- 'wardmotelaw38.OutlierWays', WHERE WHAT IT READS IS OF BULK AT MOST 1048576: true; the input reads as it did. -/
def outlierWaysUptoRow : OpenClaim := { program := "ytjhnilfelokpcaagreat", sum := "f14ba50e8c5bdc916c82403475325f2977372ee031619874b908e21b2c4960ec", func := "wardmote/wardmotelaw38.OutlierWays", spec := "outlierWays", inPlace := ["math/bits.Sub64", "math/bits.Add64"], unfollowed := true, recurses := true, named := ["math/bits.divideError", "math/bits.overflowError"], apart := false, narrowed := true }
def OutlierWaysUptoSaid : Prop := outlierWaysUptoRow.holds Tryz.pinned (OpenSpec.upto outlierWaysSpec)

/-- 'wardmotelaw38.OutlierLists', WHERE WHAT IT READS IS OF BULK AT MOST 1048576: true; the input reads as it did. -/
def outlierListsUptoRow : OpenClaim := { program := "ytjhnilfelokpcaagreat", sum := "f14ba50e8c5bdc916c82403475325f2977372ee031619874b908e21b2c4960ec", func := "wardmote/wardmotelaw38.OutlierLists", spec := "outlierLists", inPlace := ["math/bits.Sub64", "math/bits.Add64"], unfollowed := true, recurses := true, named := ["math/bits.divideError", "math/bits.overflowError"], apart := false, narrowed := true }
def OutlierListsUptoSaid : Prop := outlierListsUptoRow.holds Tryz.pinned (OpenSpec.upto outlierListsSpec)

end Rows
end Go.Proofs.YtjhnilfelokpcaaGreat
