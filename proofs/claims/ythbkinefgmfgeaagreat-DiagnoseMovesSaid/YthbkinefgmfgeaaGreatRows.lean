/-
  No cell of these rows narrows 'for every input' (looked for: loops, veiled, ifaces, maps, wideKeys, modest, calm, conditions, laid).
  DERIVED. THE GIVEN ROWS OF THIS SEAT. 7 by the template 'for every input the law returns true; each argument reads behind the call as it read before'; 0 by the template 'total and deterministic' (their statements: YthbkinefgmfgeaaGreatTotals.lean).
  GIVEN WITH THE SEED: the statements are not yours to turn. If you find one false, say at which input.
  Laid BY PROGRAM, IN A SANDBOX (cutbox-rows.mjs): the forced cells as the released guide's own fill.sh prints them over the translation b658df77066a3ac6… (all of the seat's roots in one cut). By AI agents, Wed Nov 11 2026. No macro, syntax, notation, axiom, sorry.
-/
import Derived.Test.YthbkinefgmfgeaaGreatChecked
import GoSem.Claim
import GoSem.ClaimJoined
import GoSem.ClaimMapViews
import Derived.JoinedTies
import Derived.KernelRfl
namespace Go.Proofs.YthbkinefgmfgeaaGreat
/- THE CELL 'sum', in the pinned program and in every row, IS THE sha256 OF THE DUMP (.gsa) THAT YthbkinefgmfgeaaGreatProg.lean LOADS. Nothing in Lean hashes anything: it is a label: what it is worth is what the hold of that sum in a sandbox is worth. -/
noncomputable def Tryz.pinned : Pinned := { name := "ythbkinefgmfgeaagreat", sum := "b658df77066a3ac63267fb0611815b66a94ae6480258837bb837cfafb0be98a6", checked := Tryz.checked }
namespace Rows
def none {H : Type} : Left H := { results := [], args := [] }

/-- 'wardmotelaw35.DiagnoseSeveral': WHATEVER THE INPUT: true; the input reads as it did. -/
def diagnoseSeveralSpec : ChangeSpec := { name := "diagnoseSeveral", fn := fun _ => fun
  | [d1, d2, d3, d4] => { results := [.lit (.bool true)], args := [d1, d2, d3, d4] }
  | _ => none }
def diagnoseSeveralRow : OpenClaim := { program := "ythbkinefgmfgeaagreat", sum := "b658df77066a3ac63267fb0611815b66a94ae6480258837bb837cfafb0be98a6", func := "wardmote/wardmotelaw35.DiagnoseSeveral", spec := "diagnoseSeveral", inPlace := ["math/bits.Sub64", "math/bits.Add64"], unfollowed := true, recurses := true, named := ["math/bits.divideError", "math/bits.overflowError"], apart := false }
def DiagnoseSeveralSaid : Prop := diagnoseSeveralRow.holds Tryz.pinned (OpenSpec.ofChange diagnoseSeveralSpec)

/-- ITS FALSE NEIGHBOUR: 'it returns false'. Refute it at one input. -/
def diagnoseSeveralWrong : ChangeSpec := { name := "diagnoseSeveral", fn := fun _ => fun
  | [d1, d2, d3, d4] => { results := [.lit (.bool false)], args := [d1, d2, d3, d4] }
  | _ => none }
def DiagnoseSeveralWrongFalsely : Prop := diagnoseSeveralRow.holds Tryz.pinned (OpenSpec.ofChange diagnoseSeveralWrong)

/-- 'wardmotelaw35.DiagnoseParts': WHATEVER THE INPUT: true; the input reads as it did. -/
def diagnosePartsSpec : ChangeSpec := { name := "diagnoseParts", fn := fun _ => fun
  | [d1, d2] => { results := [.lit (.bool true)], args := [d1, d2] }
  | _ => none }
def diagnosePartsRow : OpenClaim := { program := "ythbkinefgmfgeaagreat", sum := "b658df77066a3ac63267fb0611815b66a94ae6480258837bb837cfafb0be98a6", func := "wardmote/wardmotelaw35.DiagnoseParts", spec := "diagnoseParts", inPlace := ["math/bits.Sub64", "math/bits.Add64"], unfollowed := true, recurses := true, named := ["math/bits.divideError", "math/bits.overflowError"], apart := false }
def DiagnosePartsSaid : Prop := diagnosePartsRow.holds Tryz.pinned (OpenSpec.ofChange diagnosePartsSpec)

/-- ITS FALSE NEIGHBOUR: 'it returns false'. Refute it at one input. -/
def diagnosePartsWrong : ChangeSpec := { name := "diagnoseParts", fn := fun _ => fun
  | [d1, d2] => { results := [.lit (.bool false)], args := [d1, d2] }
  | _ => none }
def DiagnosePartsWrongFalsely : Prop := diagnosePartsRow.holds Tryz.pinned (OpenSpec.ofChange diagnosePartsWrong)

/-- 'wardmotelaw35.DiagnoseChains': WHATEVER THE INPUT: true; the input reads as it did. -/
def diagnoseChainsSpec : ChangeSpec := { name := "diagnoseChains", fn := fun _ => fun
  | [d1, d2, d3, d4] => { results := [.lit (.bool true)], args := [d1, d2, d3, d4] }
  | _ => none }
def diagnoseChainsRow : OpenClaim := { program := "ythbkinefgmfgeaagreat", sum := "b658df77066a3ac63267fb0611815b66a94ae6480258837bb837cfafb0be98a6", func := "wardmote/wardmotelaw35.DiagnoseChains", spec := "diagnoseChains", inPlace := ["math/bits.Sub64", "math/bits.Add64"], unfollowed := true, recurses := true, named := ["math/bits.divideError", "math/bits.overflowError"], apart := false }
def DiagnoseChainsSaid : Prop := diagnoseChainsRow.holds Tryz.pinned (OpenSpec.ofChange diagnoseChainsSpec)

/-- ITS FALSE NEIGHBOUR: 'it returns false'. Refute it at one input. -/
def diagnoseChainsWrong : ChangeSpec := { name := "diagnoseChains", fn := fun _ => fun
  | [d1, d2, d3, d4] => { results := [.lit (.bool false)], args := [d1, d2, d3, d4] }
  | _ => none }
def DiagnoseChainsWrongFalsely : Prop := diagnoseChainsRow.holds Tryz.pinned (OpenSpec.ofChange diagnoseChainsWrong)

/-- 'wardmotelaw35.DiagnoseBatches': WHATEVER THE INPUT: true; the input reads as it did. -/
def diagnoseBatchesSpec : ChangeSpec := { name := "diagnoseBatches", fn := fun _ => fun
  | [d1, d2, d3, d4, d5] => { results := [.lit (.bool true)], args := [d1, d2, d3, d4, d5] }
  | _ => none }
def diagnoseBatchesRow : OpenClaim := { program := "ythbkinefgmfgeaagreat", sum := "b658df77066a3ac63267fb0611815b66a94ae6480258837bb837cfafb0be98a6", func := "wardmote/wardmotelaw35.DiagnoseBatches", spec := "diagnoseBatches", inPlace := ["math/bits.Sub64", "math/bits.Add64"], unfollowed := true, recurses := true, named := ["math/bits.divideError", "math/bits.overflowError"], apart := false }
def DiagnoseBatchesSaid : Prop := diagnoseBatchesRow.holds Tryz.pinned (OpenSpec.ofChange diagnoseBatchesSpec)

/-- ITS FALSE NEIGHBOUR: 'it returns false'. Refute it at one input. -/
def diagnoseBatchesWrong : ChangeSpec := { name := "diagnoseBatches", fn := fun _ => fun
  | [d1, d2, d3, d4, d5] => { results := [.lit (.bool false)], args := [d1, d2, d3, d4, d5] }
  | _ => none }
def DiagnoseBatchesWrongFalsely : Prop := diagnoseBatchesRow.holds Tryz.pinned (OpenSpec.ofChange diagnoseBatchesWrong)

/-- 'wardmotelaw35.DiagnoseRatios': WHATEVER THE INPUT: true; the input reads as it did. -/
def diagnoseRatiosSpec : ChangeSpec := { name := "diagnoseRatios", fn := fun _ => fun
  | [d1, d2] => { results := [.lit (.bool true)], args := [d1, d2] }
  | _ => none }
def diagnoseRatiosRow : OpenClaim := { program := "ythbkinefgmfgeaagreat", sum := "b658df77066a3ac63267fb0611815b66a94ae6480258837bb837cfafb0be98a6", func := "wardmote/wardmotelaw35.DiagnoseRatios", spec := "diagnoseRatios", inPlace := ["math/bits.Sub64", "math/bits.Add64"], unfollowed := true, recurses := true, named := ["math/bits.divideError", "math/bits.overflowError"], apart := false }
def DiagnoseRatiosSaid : Prop := diagnoseRatiosRow.holds Tryz.pinned (OpenSpec.ofChange diagnoseRatiosSpec)

/-- ITS FALSE NEIGHBOUR: 'it returns false'. Refute it at one input. -/
def diagnoseRatiosWrong : ChangeSpec := { name := "diagnoseRatios", fn := fun _ => fun
  | [d1, d2] => { results := [.lit (.bool false)], args := [d1, d2] }
  | _ => none }
def DiagnoseRatiosWrongFalsely : Prop := diagnoseRatiosRow.holds Tryz.pinned (OpenSpec.ofChange diagnoseRatiosWrong)

/-- 'wardmotelaw35.DiagnoseMoves': WHATEVER THE INPUT: true; the input reads as it did. -/
def diagnoseMovesSpec : ChangeSpec := { name := "diagnoseMoves", fn := fun _ => fun
  | [d1, d2, d3, d4] => { results := [.lit (.bool true)], args := [d1, d2, d3, d4] }
  | _ => none }
def diagnoseMovesRow : OpenClaim := { program := "ythbkinefgmfgeaagreat", sum := "b658df77066a3ac63267fb0611815b66a94ae6480258837bb837cfafb0be98a6", func := "wardmote/wardmotelaw35.DiagnoseMoves", spec := "diagnoseMoves", inPlace := ["math/bits.Sub64", "math/bits.Add64"], unfollowed := true, recurses := true, named := ["math/bits.divideError", "math/bits.overflowError"], apart := false }
def DiagnoseMovesSaid : Prop := diagnoseMovesRow.holds Tryz.pinned (OpenSpec.ofChange diagnoseMovesSpec)

/-- ITS FALSE NEIGHBOUR: 'it returns false'. Refute it at one input. -/
def diagnoseMovesWrong : ChangeSpec := { name := "diagnoseMoves", fn := fun _ => fun
  | [d1, d2, d3, d4] => { results := [.lit (.bool false)], args := [d1, d2, d3, d4] }
  | _ => none }
def DiagnoseMovesWrongFalsely : Prop := diagnoseMovesRow.holds Tryz.pinned (OpenSpec.ofChange diagnoseMovesWrong)

/-- 'wardmotelaw35.DiagnoseSums': WHATEVER THE INPUT: true; the input reads as it did. -/
def diagnoseSumsSpec : ChangeSpec := { name := "diagnoseSums", fn := fun _ => fun
  | [d] => { results := [.lit (.bool true)], args := [d] }
  | _ => none }
def diagnoseSumsRow : OpenClaim := { program := "ythbkinefgmfgeaagreat", sum := "b658df77066a3ac63267fb0611815b66a94ae6480258837bb837cfafb0be98a6", func := "wardmote/wardmotelaw35.DiagnoseSums", spec := "diagnoseSums", inPlace := ["math/bits.Sub64", "math/bits.Add64"], unfollowed := true, recurses := true, named := ["math/bits.divideError", "math/bits.overflowError"], apart := false }
def DiagnoseSumsSaid : Prop := diagnoseSumsRow.holds Tryz.pinned (OpenSpec.ofChange diagnoseSumsSpec)

/-- ITS FALSE NEIGHBOUR: 'it returns false'. Refute it at one input. -/
def diagnoseSumsWrong : ChangeSpec := { name := "diagnoseSums", fn := fun _ => fun
  | [d] => { results := [.lit (.bool false)], args := [d] }
  | _ => none }
def DiagnoseSumsWrongFalsely : Prop := diagnoseSumsRow.holds Tryz.pinned (OpenSpec.ofChange diagnoseSumsWrong)

/- THE SECOND FORM. 'bulk': how many values and letters a reading holds, each counted each time it is reached (what is shared counts as often as it is met; a slice's spare places count too). A statement '..UptoSaid' is the law's where the arguments, and the package variables that the reading takes, are together of bulk at most 1048576: NARROWER than '..Said'. Prove '..Said' where nothing that the law and all that it calls make is longer than what came in: it says more and counts as full. Else prove '..UptoSaid'. A law counts once. -/
mutual
def uptoBulk {H : Type} : DataW H → Nat
  | .lit (.string bytes) => bytes.length + 1
  | .lit _ => 1
  | .nil => 1
  | .ptr d => uptoBulk d + 1
  | .slice elems spare => uptoBulkAll elems + uptoBulkAll spare + 1
  | .agg parts => uptoBulkAll parts + 1
  | .iface _ d => uptoBulk d + 1
  | .map entries => uptoBulkEntries entries + 1
  | .held _ => 1
def uptoBulkAll {H : Type} : List (DataW H) → Nat
  | [] => 0
  | d :: r => uptoBulk d + uptoBulkAll r
def uptoBulkEntries {H : Type} : List (Lit × DataW H) → Nat
  | [] => 0
  | x :: r => uptoBulkEntry x + uptoBulkEntries r
def uptoBulkEntry {H : Type} : Lit × DataW H → Nat
  | (.string bytes, d) => bytes.length + uptoBulk d + 1
  | (_, d) => uptoBulk d + 1
 end
def uptoSmall : (H : Type) → List (DataW H) → Bool := fun _ ds => decide (uptoBulkAll ds ≤ 1048576)
def OpenSpec.upto (s : _root_.Go.ChangeSpec) : _root_.Go.OpenSpec := { _root_.Go.OpenSpec.ofChange s with cond := some uptoSmall }

/-- 'wardmotelaw35.DiagnoseSeveral', WHERE WHAT IT READS IS OF BULK AT MOST 1048576: true; the input reads as it did. -/
def diagnoseSeveralUptoRow : OpenClaim := { program := "ythbkinefgmfgeaagreat", sum := "b658df77066a3ac63267fb0611815b66a94ae6480258837bb837cfafb0be98a6", func := "wardmote/wardmotelaw35.DiagnoseSeveral", spec := "diagnoseSeveral", inPlace := ["math/bits.Sub64", "math/bits.Add64"], unfollowed := true, recurses := true, named := ["math/bits.divideError", "math/bits.overflowError"], apart := false, narrowed := true }
def DiagnoseSeveralUptoSaid : Prop := diagnoseSeveralUptoRow.holds Tryz.pinned (OpenSpec.upto diagnoseSeveralSpec)

/-- 'wardmotelaw35.DiagnoseParts', WHERE WHAT IT READS IS OF BULK AT MOST 1048576: true; the input reads as it did. -/
def diagnosePartsUptoRow : OpenClaim := { program := "ythbkinefgmfgeaagreat", sum := "b658df77066a3ac63267fb0611815b66a94ae6480258837bb837cfafb0be98a6", func := "wardmote/wardmotelaw35.DiagnoseParts", spec := "diagnoseParts", inPlace := ["math/bits.Sub64", "math/bits.Add64"], unfollowed := true, recurses := true, named := ["math/bits.divideError", "math/bits.overflowError"], apart := false, narrowed := true }
def DiagnosePartsUptoSaid : Prop := diagnosePartsUptoRow.holds Tryz.pinned (OpenSpec.upto diagnosePartsSpec)

/-- 'wardmotelaw35.DiagnoseChains', WHERE WHAT IT READS IS OF BULK AT MOST 1048576: true; the input reads as it did. -/
def diagnoseChainsUptoRow : OpenClaim := { program := "ythbkinefgmfgeaagreat", sum := "b658df77066a3ac63267fb0611815b66a94ae6480258837bb837cfafb0be98a6", func := "wardmote/wardmotelaw35.DiagnoseChains", spec := "diagnoseChains", inPlace := ["math/bits.Sub64", "math/bits.Add64"], unfollowed := true, recurses := true, named := ["math/bits.divideError", "math/bits.overflowError"], apart := false, narrowed := true }
def DiagnoseChainsUptoSaid : Prop := diagnoseChainsUptoRow.holds Tryz.pinned (OpenSpec.upto diagnoseChainsSpec)

/-- 'wardmotelaw35.DiagnoseBatches', WHERE WHAT IT READS IS OF BULK AT MOST 1048576: true; the input reads as it did. -/
def diagnoseBatchesUptoRow : OpenClaim := { program := "ythbkinefgmfgeaagreat", sum := "b658df77066a3ac63267fb0611815b66a94ae6480258837bb837cfafb0be98a6", func := "wardmote/wardmotelaw35.DiagnoseBatches", spec := "diagnoseBatches", inPlace := ["math/bits.Sub64", "math/bits.Add64"], unfollowed := true, recurses := true, named := ["math/bits.divideError", "math/bits.overflowError"], apart := false, narrowed := true }
def DiagnoseBatchesUptoSaid : Prop := diagnoseBatchesUptoRow.holds Tryz.pinned (OpenSpec.upto diagnoseBatchesSpec)

/-- 'wardmotelaw35.DiagnoseRatios', WHERE WHAT IT READS IS OF BULK AT MOST 1048576: true; the input reads as it did. -/
def diagnoseRatiosUptoRow : OpenClaim := { program := "ythbkinefgmfgeaagreat", sum := "b658df77066a3ac63267fb0611815b66a94ae6480258837bb837cfafb0be98a6", func := "wardmote/wardmotelaw35.DiagnoseRatios", spec := "diagnoseRatios", inPlace := ["math/bits.Sub64", "math/bits.Add64"], unfollowed := true, recurses := true, named := ["math/bits.divideError", "math/bits.overflowError"], apart := false, narrowed := true }
def DiagnoseRatiosUptoSaid : Prop := diagnoseRatiosUptoRow.holds Tryz.pinned (OpenSpec.upto diagnoseRatiosSpec)

/-- 'wardmotelaw35.DiagnoseMoves', WHERE WHAT IT READS IS OF BULK AT MOST 1048576: true; the input reads as it did. -/
def diagnoseMovesUptoRow : OpenClaim := { program := "ythbkinefgmfgeaagreat", sum := "b658df77066a3ac63267fb0611815b66a94ae6480258837bb837cfafb0be98a6", func := "wardmote/wardmotelaw35.DiagnoseMoves", spec := "diagnoseMoves", inPlace := ["math/bits.Sub64", "math/bits.Add64"], unfollowed := true, recurses := true, named := ["math/bits.divideError", "math/bits.overflowError"], apart := false, narrowed := true }
def DiagnoseMovesUptoSaid : Prop := diagnoseMovesUptoRow.holds Tryz.pinned (OpenSpec.upto diagnoseMovesSpec)

/-- 'wardmotelaw35.DiagnoseSums', WHERE WHAT IT READS IS OF BULK AT MOST 1048576: true; the input reads as it did. -/
def diagnoseSumsUptoRow : OpenClaim := { program := "ythbkinefgmfgeaagreat", sum := "b658df77066a3ac63267fb0611815b66a94ae6480258837bb837cfafb0be98a6", func := "wardmote/wardmotelaw35.DiagnoseSums", spec := "diagnoseSums", inPlace := ["math/bits.Sub64", "math/bits.Add64"], unfollowed := true, recurses := true, named := ["math/bits.divideError", "math/bits.overflowError"], apart := false, narrowed := true }
def DiagnoseSumsUptoSaid : Prop := diagnoseSumsUptoRow.holds Tryz.pinned (OpenSpec.upto diagnoseSumsSpec)

end Rows
end Go.Proofs.YthbkinefgmfgeaaGreat
