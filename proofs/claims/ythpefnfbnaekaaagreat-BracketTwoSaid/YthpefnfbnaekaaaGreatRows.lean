/-
  No cell of these rows narrows 'for every input' (looked for: loops, veiled, ifaces, maps, wideKeys, modest, calm, conditions, laid).
  DERIVED. THE GIVEN ROWS OF THIS SEAT. 5 by the template 'for every input the law returns true; each argument reads behind the call as it read before'; 0 by the template 'total and deterministic' (their statements: YthpefnfbnaekaaaGreatTotals.lean).
  GIVEN WITH THE SEED: the statements are not yours to turn. If you find one false, say at which input.
  Laid BY PROGRAM, IN A SANDBOX (cutbox-rows.mjs): the forced cells as the released guide's own fill.sh prints them over the translation dc804aeb0c6890de… (all of the seat's roots in one cut). By AI agents, Wed Nov 11 2026. No macro, syntax, notation, axiom, sorry.
-/
import Derived.Test.YthpefnfbnaekaaaGreatChecked
import GoSem.Claim
import GoSem.ClaimJoined
import GoSem.ClaimMapViews
import Derived.JoinedTies
import Derived.KernelRfl
namespace Go.Proofs.YthpefnfbnaekaaaGreat
/- THE CELL 'sum', in the pinned program and in every row, IS THE sha256 OF THE DUMP (.gsa) THAT YthpefnfbnaekaaaGreatProg.lean LOADS. Nothing in Lean hashes anything: it is a label: what it is worth is what the hold of that sum in a sandbox is worth. -/
noncomputable def Tryz.pinned : Pinned := { name := "ythpefnfbnaekaaagreat", sum := "dc804aeb0c6890defad52225d7dcd4948333f8c26854108e166a4370d7e84ef3", checked := Tryz.checked }
namespace Rows
def none {H : Type} : Left H := { results := [], args := [] }

/-- 'wardmotelaw08.BracketFinds': WHATEVER THE INPUT: true; the input reads as it did. -/
def bracketFindsSpec : ChangeSpec := { name := "bracketFinds", fn := fun _ => fun
  | [d1, d2, d3, d4, d5, d6] => { results := [.lit (.bool true)], args := [d1, d2, d3, d4, d5, d6] }
  | _ => none }
def bracketFindsRow : OpenClaim := { program := "ythpefnfbnaekaaagreat", sum := "dc804aeb0c6890defad52225d7dcd4948333f8c26854108e166a4370d7e84ef3", func := "wardmote/wardmotelaw08.BracketFinds", spec := "bracketFinds", inPlace := ["math/bits.Sub64", "math/bits.Add64"], unfollowed := true, recurses := true, named := ["math/bits.divideError", "math/bits.overflowError"], apart := false }
def BracketFindsSaid : Prop := bracketFindsRow.holds Tryz.pinned (OpenSpec.ofChange bracketFindsSpec)

/-- ITS FALSE NEIGHBOUR: 'it returns false'. Refute it at one input. -/
def bracketFindsWrong : ChangeSpec := { name := "bracketFinds", fn := fun _ => fun
  | [d1, d2, d3, d4, d5, d6] => { results := [.lit (.bool false)], args := [d1, d2, d3, d4, d5, d6] }
  | _ => none }
def BracketFindsWrongFalsely : Prop := bracketFindsRow.holds Tryz.pinned (OpenSpec.ofChange bracketFindsWrong)

/-- 'wardmotelaw08.BracketFalls': WHATEVER THE INPUT: true; the input reads as it did. -/
def bracketFallsSpec : ChangeSpec := { name := "bracketFalls", fn := fun _ => fun
  | [d1, d2, d3, d4] => { results := [.lit (.bool true)], args := [d1, d2, d3, d4] }
  | _ => none }
def bracketFallsRow : OpenClaim := { program := "ythpefnfbnaekaaagreat", sum := "dc804aeb0c6890defad52225d7dcd4948333f8c26854108e166a4370d7e84ef3", func := "wardmote/wardmotelaw08.BracketFalls", spec := "bracketFalls", inPlace := ["math/bits.Sub64", "math/bits.Add64"], unfollowed := true, recurses := true, named := ["math/bits.divideError", "math/bits.overflowError"], apart := false }
def BracketFallsSaid : Prop := bracketFallsRow.holds Tryz.pinned (OpenSpec.ofChange bracketFallsSpec)

/-- ITS FALSE NEIGHBOUR: 'it returns false'. Refute it at one input. -/
def bracketFallsWrong : ChangeSpec := { name := "bracketFalls", fn := fun _ => fun
  | [d1, d2, d3, d4] => { results := [.lit (.bool false)], args := [d1, d2, d3, d4] }
  | _ => none }
def BracketFallsWrongFalsely : Prop := bracketFallsRow.holds Tryz.pinned (OpenSpec.ofChange bracketFallsWrong)

/-- 'wardmotelaw08.BracketDivides': WHATEVER THE INPUT: true; the input reads as it did. -/
def bracketDividesSpec : ChangeSpec := { name := "bracketDivides", fn := fun _ => fun
  | [d1, d2, d3] => { results := [.lit (.bool true)], args := [d1, d2, d3] }
  | _ => none }
def bracketDividesRow : OpenClaim := { program := "ythpefnfbnaekaaagreat", sum := "dc804aeb0c6890defad52225d7dcd4948333f8c26854108e166a4370d7e84ef3", func := "wardmote/wardmotelaw08.BracketDivides", spec := "bracketDivides", inPlace := ["math/bits.Sub64", "math/bits.Add64"], unfollowed := true, recurses := true, named := ["math/bits.divideError", "math/bits.overflowError"], apart := false }
def BracketDividesSaid : Prop := bracketDividesRow.holds Tryz.pinned (OpenSpec.ofChange bracketDividesSpec)

/-- ITS FALSE NEIGHBOUR: 'it returns false'. Refute it at one input. -/
def bracketDividesWrong : ChangeSpec := { name := "bracketDivides", fn := fun _ => fun
  | [d1, d2, d3] => { results := [.lit (.bool false)], args := [d1, d2, d3] }
  | _ => none }
def BracketDividesWrongFalsely : Prop := bracketDividesRow.holds Tryz.pinned (OpenSpec.ofChange bracketDividesWrong)

/-- 'wardmotelaw08.BracketAwards': WHATEVER THE INPUT: true; the input reads as it did. -/
def bracketAwardsSpec : ChangeSpec := { name := "bracketAwards", fn := fun _ => fun
  | [d1, d2, d3] => { results := [.lit (.bool true)], args := [d1, d2, d3] }
  | _ => none }
def bracketAwardsRow : OpenClaim := { program := "ythpefnfbnaekaaagreat", sum := "dc804aeb0c6890defad52225d7dcd4948333f8c26854108e166a4370d7e84ef3", func := "wardmote/wardmotelaw08.BracketAwards", spec := "bracketAwards", inPlace := ["math/bits.Sub64", "math/bits.Add64"], unfollowed := true, recurses := true, named := ["math/bits.divideError", "math/bits.overflowError"], apart := false }
def BracketAwardsSaid : Prop := bracketAwardsRow.holds Tryz.pinned (OpenSpec.ofChange bracketAwardsSpec)

/-- ITS FALSE NEIGHBOUR: 'it returns false'. Refute it at one input. -/
def bracketAwardsWrong : ChangeSpec := { name := "bracketAwards", fn := fun _ => fun
  | [d1, d2, d3] => { results := [.lit (.bool false)], args := [d1, d2, d3] }
  | _ => none }
def BracketAwardsWrongFalsely : Prop := bracketAwardsRow.holds Tryz.pinned (OpenSpec.ofChange bracketAwardsWrong)

/-- 'wardmotelaw08.BracketTwo': WHATEVER THE INPUT: true; the input reads as it did. -/
def bracketTwoSpec : ChangeSpec := { name := "bracketTwo", fn := fun _ => fun
  | [d1, d2, d3] => { results := [.lit (.bool true)], args := [d1, d2, d3] }
  | _ => none }
def bracketTwoRow : OpenClaim := { program := "ythpefnfbnaekaaagreat", sum := "dc804aeb0c6890defad52225d7dcd4948333f8c26854108e166a4370d7e84ef3", func := "wardmote/wardmotelaw08.BracketTwo", spec := "bracketTwo", inPlace := ["math/bits.Sub64", "math/bits.Add64"], unfollowed := true, recurses := true, named := ["math/bits.divideError", "math/bits.overflowError"], apart := false }
def BracketTwoSaid : Prop := bracketTwoRow.holds Tryz.pinned (OpenSpec.ofChange bracketTwoSpec)

/-- ITS FALSE NEIGHBOUR: 'it returns false'. Refute it at one input. -/
def bracketTwoWrong : ChangeSpec := { name := "bracketTwo", fn := fun _ => fun
  | [d1, d2, d3] => { results := [.lit (.bool false)], args := [d1, d2, d3] }
  | _ => none }
def BracketTwoWrongFalsely : Prop := bracketTwoRow.holds Tryz.pinned (OpenSpec.ofChange bracketTwoWrong)

/- THE SECOND FORM. 'bulk': how many values and letters a reading holds, each counted each time it is reached (what is shared counts as often as it is met; a slice's spare places count too). A statement '..UptoSaid' is the law's where the arguments, and the package variables that the reading takes, are together of bulk at most 1048576: NARROWER than '..Said'. Prove '..Said' where nothing that the law and all that it calls make is longer than what came in: it says more and counts as full. Else prove '..UptoSaid'. A law counts once. -/
mutual
def uptoBulk {H : Type} : DataW H → Nat
  | .lit (.string bytes) => bytes.length + 1
  | .lit _ => 1
  | .nil => 1
  | .ptr d => uptoBulk d + 1
  | .slice elems spare => uptoBulkAll elems + uptoBulkAll spare + 1
  | .agg parts => uptoBulkAll parts + 1
  | .iface _ d => uptoBulk d + 1
  | .map entries => uptoBulkEntries entries + 1
  | .held _ => 1
def uptoBulkAll {H : Type} : List (DataW H) → Nat
  | [] => 0
  | d :: r => uptoBulk d + uptoBulkAll r
def uptoBulkEntries {H : Type} : List (Lit × DataW H) → Nat
  | [] => 0
  | x :: r => uptoBulkEntry x + uptoBulkEntries r
def uptoBulkEntry {H : Type} : Lit × DataW H → Nat
  | (.string bytes, d) => bytes.length + uptoBulk d + 1
  | (_, d) => uptoBulk d + 1
 end
def uptoSmall : (H : Type) → List (DataW H) → Bool := fun _ ds => decide (uptoBulkAll ds ≤ 1048576)
def OpenSpec.upto (s : _root_.Go.ChangeSpec) : _root_.Go.OpenSpec := { _root_.Go.OpenSpec.ofChange s with cond := some uptoSmall }

/-- 'wardmotelaw08.BracketFinds', WHERE WHAT IT READS IS OF BULK AT MOST 1048576: true; the input reads as it did. -/
def bracketFindsUptoRow : OpenClaim := { program := "ythpefnfbnaekaaagreat", sum := "dc804aeb0c6890defad52225d7dcd4948333f8c26854108e166a4370d7e84ef3", func := "wardmote/wardmotelaw08.BracketFinds", spec := "bracketFinds", inPlace := ["math/bits.Sub64", "math/bits.Add64"], unfollowed := true, recurses := true, named := ["math/bits.divideError", "math/bits.overflowError"], apart := false, narrowed := true }
def BracketFindsUptoSaid : Prop := bracketFindsUptoRow.holds Tryz.pinned (OpenSpec.upto bracketFindsSpec)

/-- 'wardmotelaw08.BracketFalls', WHERE WHAT IT READS IS OF BULK AT MOST 1048576: true; the input reads as it did. -/
def bracketFallsUptoRow : OpenClaim := { program := "ythpefnfbnaekaaagreat", sum := "dc804aeb0c6890defad52225d7dcd4948333f8c26854108e166a4370d7e84ef3", func := "wardmote/wardmotelaw08.BracketFalls", spec := "bracketFalls", inPlace := ["math/bits.Sub64", "math/bits.Add64"], unfollowed := true, recurses := true, named := ["math/bits.divideError", "math/bits.overflowError"], apart := false, narrowed := true }
def BracketFallsUptoSaid : Prop := bracketFallsUptoRow.holds Tryz.pinned (OpenSpec.upto bracketFallsSpec)

/-- 'wardmotelaw08.BracketDivides', WHERE WHAT IT READS IS OF BULK AT MOST 1048576: true; the input reads as it did. -/
def bracketDividesUptoRow : OpenClaim := { program := "ythpefnfbnaekaaagreat", sum := "dc804aeb0c6890defad52225d7dcd4948333f8c26854108e166a4370d7e84ef3", func := "wardmote/wardmotelaw08.BracketDivides", spec := "bracketDivides", inPlace := ["math/bits.Sub64", "math/bits.Add64"], unfollowed := true, recurses := true, named := ["math/bits.divideError", "math/bits.overflowError"], apart := false, narrowed := true }
def BracketDividesUptoSaid : Prop := bracketDividesUptoRow.holds Tryz.pinned (OpenSpec.upto bracketDividesSpec)

/-- 'wardmotelaw08.BracketAwards', WHERE WHAT IT READS IS OF BULK AT MOST 1048576: true; the input reads as it did. -/
def bracketAwardsUptoRow : OpenClaim := { program := "ythpefnfbnaekaaagreat", sum := "dc804aeb0c6890defad52225d7dcd4948333f8c26854108e166a4370d7e84ef3", func := "wardmote/wardmotelaw08.BracketAwards", spec := "bracketAwards", inPlace := ["math/bits.Sub64", "math/bits.Add64"], unfollowed := true, recurses := true, named := ["math/bits.divideError", "math/bits.overflowError"], apart := false, narrowed := true }
def BracketAwardsUptoSaid : Prop := bracketAwardsUptoRow.holds Tryz.pinned (OpenSpec.upto bracketAwardsSpec)

/-- 'wardmotelaw08.BracketTwo', WHERE WHAT IT READS IS OF BULK AT MOST 1048576: true; the input reads as it did. -/
def bracketTwoUptoRow : OpenClaim := { program := "ythpefnfbnaekaaagreat", sum := "dc804aeb0c6890defad52225d7dcd4948333f8c26854108e166a4370d7e84ef3", func := "wardmote/wardmotelaw08.BracketTwo", spec := "bracketTwo", inPlace := ["math/bits.Sub64", "math/bits.Add64"], unfollowed := true, recurses := true, named := ["math/bits.divideError", "math/bits.overflowError"], apart := false, narrowed := true }
def BracketTwoUptoSaid : Prop := bracketTwoUptoRow.holds Tryz.pinned (OpenSpec.upto bracketTwoSpec)

end Rows
end Go.Proofs.YthpefnfbnaekaaaGreat
