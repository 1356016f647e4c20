/-
  The types of this seat's program, as the machine asks of them; made by program (tools/mk.py). Contracts: Go's package slices, for numbers. The lowest bit of a number: plain numbers. Digits to the base 2^32, the lowest first: plain numbers.
-/
import Derived.Test.YtcmfdbjgimekbaaDoorEnumeratePartsAg
import Derived.Test.YtcmfdbjgimekbaaDoorProg
import Derived.KernelRfl
import Init
set_option linter.unusedVariables false
set_option linter.unusedSimpArgs false
set_option linter.defProp false
set_option linter.deprecated false
/-! The types of this seat's program, as the machine asks of them; made by program (tools/mk.py). -/
namespace Go.Id
open Go
theorem ag100 : isAggT Proofs.Tryd.prog 100 = some false := by kernel_rfl
theorem ag101 : isAggT Proofs.Tryd.prog 101 = some false := by kernel_rfl
theorem ag110 : isAggT Proofs.Tryd.prog 110 = some true := by kernel_rfl
theorem ag121 : isAggT Proofs.Tryd.prog 121 = some false := by kernel_rfl
theorem ag132 : isAggT Proofs.Tryd.prog 132 = some true := by kernel_rfl
theorem ag139 : isAggT Proofs.Tryd.prog 139 = some false := by kernel_rfl
theorem ag140 : isAggT Proofs.Tryd.prog 140 = some false := by kernel_rfl
theorem ag141 : isAggT Proofs.Tryd.prog 141 = some true := by kernel_rfl
theorem ag22 : isAggT Proofs.Tryd.prog 22 = some false := by kernel_rfl
theorem ag23 : isAggT Proofs.Tryd.prog 23 = some false := by kernel_rfl
theorem ag25 : isAggT Proofs.Tryd.prog 25 = some true := by kernel_rfl
theorem ag26 : isAggT Proofs.Tryd.prog 26 = some false := by kernel_rfl
theorem ag28 : isAggT Proofs.Tryd.prog 28 = some true := by kernel_rfl
theorem ag3 : isAggT Proofs.Tryd.prog 3 = some false := by kernel_rfl
theorem ag30 : isAggT Proofs.Tryd.prog 30 = some false := by kernel_rfl
theorem ag32 : isAggT Proofs.Tryd.prog 32 = some true := by kernel_rfl
theorem ag33 : isAggT Proofs.Tryd.prog 33 = some false := by kernel_rfl
theorem ag35 : isAggT Proofs.Tryd.prog 35 = some true := by kernel_rfl
theorem ag38 : isAggT Proofs.Tryd.prog 38 = some false := by kernel_rfl
theorem ag4 : isAggT Proofs.Tryd.prog 4 = some false := by kernel_rfl
theorem ag42 : isAggT Proofs.Tryd.prog 42 = some false := by kernel_rfl
theorem ag43 : isAggT Proofs.Tryd.prog 43 = some false := by kernel_rfl
theorem ag44 : isAggT Proofs.Tryd.prog 44 = some false := by kernel_rfl
theorem ag47 : isAggT Proofs.Tryd.prog 47 = some false := by kernel_rfl
theorem ag5 : isAggT Proofs.Tryd.prog 5 = some false := by kernel_rfl
theorem ag52 : isAggT Proofs.Tryd.prog 52 = some true := by kernel_rfl
theorem ag59 : isAggT Proofs.Tryd.prog 59 = some true := by kernel_rfl
theorem ag82 : isAggT Proofs.Tryd.prog 82 = some true := by kernel_rfl
theorem ag84 : isAggT Proofs.Tryd.prog 84 = some true := by kernel_rfl
theorem ag86 : isAggT Proofs.Tryd.prog 86 = some true := by kernel_rfl
theorem ag87 : isAggT Proofs.Tryd.prog 87 = some true := by kernel_rfl
theorem ag97 : isAggT Proofs.Tryd.prog 97 = some false := by kernel_rfl
theorem ap30 : appT Proofs.Tryd.prog 30 = some (2, 16) := by kernel_rfl
theorem ap33 : appT Proofs.Tryd.prog 33 = some (1, 8) := by kernel_rfl
theorem ap38 : appT Proofs.Tryd.prog 38 = some (1, 8) := by kernel_rfl
theorem ap42 : appT Proofs.Tryd.prog 42 = some (1, 24) := by kernel_rfl
theorem ap44 : appT Proofs.Tryd.prog 44 = some (1, 8) := by kernel_rfl
theorem ar137 : arrOf Proofs.Tryd.prog 137 = some (2, 1) := by kernel_rfl
theorem ar163 : arrOf Proofs.Tryd.prog 163 = some (64, 1) := by kernel_rfl
theorem ar170 : arrOf Proofs.Tryd.prog 170 = some (32, 1) := by kernel_rfl
theorem ar52 : arrOf Proofs.Tryd.prog 52 = some (2, 1) := by kernel_rfl
theorem ar59 : arrOf Proofs.Tryd.prog 59 = some (8, 1) := by kernel_rfl
theorem as103 : allSized Proofs.Tryd.prog 103 = true := by kernel_rfl
theorem as110 : allSized Proofs.Tryd.prog 110 = true := by kernel_rfl
theorem as132 : allSized Proofs.Tryd.prog 132 = true := by kernel_rfl
theorem as141 : allSized Proofs.Tryd.prog 141 = true := by kernel_rfl
theorem as32 : allSized Proofs.Tryd.prog 32 = true := by kernel_rfl
theorem as35 : allSized Proofs.Tryd.prog 35 = true := by kernel_rfl
theorem as52 : allSized Proofs.Tryd.prog 52 = true := by kernel_rfl
theorem as59 : allSized Proofs.Tryd.prog 59 = true := by kernel_rfl
theorem as86 : allSized Proofs.Tryd.prog 86 = true := by kernel_rfl
theorem as87 : allSized Proofs.Tryd.prog 87 = true := by kernel_rfl
theorem as94 : allSized Proofs.Tryd.prog 94 = true := by kernel_rfl
theorem as95 : allSized Proofs.Tryd.prog 95 = true := by kernel_rfl
theorem eg59 : Proofs.Tryd.prog.eqGuardType Proofs.Tryd.prog.depth 59 = false := by kernel_rfl
theorem es100 : elemSize Proofs.Tryd.prog 100 = some 1 := by kernel_rfl
theorem es23 : elemSize Proofs.Tryd.prog 23 = some 2 := by kernel_rfl
theorem es26 : elemSize Proofs.Tryd.prog 26 = some 1 := by kernel_rfl
theorem es30 : elemSize Proofs.Tryd.prog 30 = some 2 := by kernel_rfl
theorem es33 : elemSize Proofs.Tryd.prog 33 = some 1 := by kernel_rfl
theorem es38 : elemSize Proofs.Tryd.prog 38 = some 1 := by kernel_rfl
theorem es42 : elemSize Proofs.Tryd.prog 42 = some 1 := by kernel_rfl
theorem es44 : elemSize Proofs.Tryd.prog 44 = some 1 := by kernel_rfl
theorem fa103_0 : fieldAt Proofs.Tryd.prog 103 0 = some 0 := by kernel_rfl
theorem fa103_1 : fieldAt Proofs.Tryd.prog 103 1 = some 1 := by kernel_rfl
theorem fa103_2 : fieldAt Proofs.Tryd.prog 103 2 = some 2 := by kernel_rfl
theorem fa110_0 : fieldAt Proofs.Tryd.prog 110 0 = some 0 := by kernel_rfl
theorem fa110_1 : fieldAt Proofs.Tryd.prog 110 1 = some 1 := by kernel_rfl
theorem fa132_0 : fieldAt Proofs.Tryd.prog 132 0 = some 0 := by kernel_rfl
theorem fa132_1 : fieldAt Proofs.Tryd.prog 132 1 = some 1 := by kernel_rfl
theorem fa132_2 : fieldAt Proofs.Tryd.prog 132 2 = some 2 := by kernel_rfl
theorem fa25_0 : fieldAt Proofs.Tryd.prog 25 0 = some 0 := by kernel_rfl
theorem fa25_1 : fieldAt Proofs.Tryd.prog 25 1 = some 1 := by kernel_rfl
theorem fa25_2 : fieldAt Proofs.Tryd.prog 25 2 = some 2 := by kernel_rfl
theorem fa25_3 : fieldAt Proofs.Tryd.prog 25 3 = some 3 := by kernel_rfl
theorem fa28_0 : fieldAt Proofs.Tryd.prog 28 0 = some 0 := by kernel_rfl
theorem fa28_1 : fieldAt Proofs.Tryd.prog 28 1 = some 4 := by kernel_rfl
theorem fa28_2 : fieldAt Proofs.Tryd.prog 28 2 = some 5 := by kernel_rfl
theorem fa28_3 : fieldAt Proofs.Tryd.prog 28 3 = some 6 := by kernel_rfl
theorem fa32_0 : fieldAt Proofs.Tryd.prog 32 0 = some 0 := by kernel_rfl
theorem fa32_1 : fieldAt Proofs.Tryd.prog 32 1 = some 1 := by kernel_rfl
theorem fa35_0 : fieldAt Proofs.Tryd.prog 35 0 = some 0 := by kernel_rfl
theorem fa35_1 : fieldAt Proofs.Tryd.prog 35 1 = some 1 := by kernel_rfl
theorem fa35_2 : fieldAt Proofs.Tryd.prog 35 2 = some 2 := by kernel_rfl
theorem fa35_3 : fieldAt Proofs.Tryd.prog 35 3 = some 3 := by kernel_rfl
theorem fa82_0 : fieldAt Proofs.Tryd.prog 82 0 = some 0 := by kernel_rfl
theorem fa82_1 : fieldAt Proofs.Tryd.prog 82 1 = some 1 := by kernel_rfl
theorem fa82_2 : fieldAt Proofs.Tryd.prog 82 2 = some 2 := by kernel_rfl
theorem fa84_0 : fieldAt Proofs.Tryd.prog 84 0 = some 0 := by kernel_rfl
theorem fa84_1 : fieldAt Proofs.Tryd.prog 84 1 = some 1 := by kernel_rfl
theorem fa84_2 : fieldAt Proofs.Tryd.prog 84 2 = some 2 := by kernel_rfl
theorem fa84_3 : fieldAt Proofs.Tryd.prog 84 3 = some 3 := by kernel_rfl
theorem fa86_0 : fieldAt Proofs.Tryd.prog 86 0 = some 0 := by kernel_rfl
theorem fa86_1 : fieldAt Proofs.Tryd.prog 86 1 = some 2 := by kernel_rfl
theorem is116 : (Program.underlying Proofs.Tryd.prog 116).isSome = true := by kernel_rfl
theorem is162 : (Program.underlying Proofs.Tryd.prog 162).isSome = true := by kernel_rfl
theorem is22 : (Program.underlying Proofs.Tryd.prog 22).isSome = true := by kernel_rfl
theorem is3 : (Program.underlying Proofs.Tryd.prog 3).isSome = true := by kernel_rfl
theorem is47 : (Program.underlying Proofs.Tryd.prog 47).isSome = true := by kernel_rfl
theorem is5 : (Program.underlying Proofs.Tryd.prog 5).isSome = true := by kernel_rfl
theorem mk100 : makeT Proofs.Tryd.prog 100 = some (1, 1, [.bool false]) := by kernel_rfl
theorem mk30 : makeT Proofs.Tryd.prog 30 = some (2, 16, [.int .i64 (0), .int .i64 (0)]) := by kernel_rfl
theorem mk33 : makeT Proofs.Tryd.prog 33 = some (1, 8, [.int .i64 (0)]) := by kernel_rfl
theorem mk38 : makeT Proofs.Tryd.prog 38 = some (1, 8, [.int .u64 (0)]) := by kernel_rfl
theorem mk42 : makeT Proofs.Tryd.prog 42 = some (1, 24, [.slice none 0 0]) := by kernel_rfl
theorem mk44 : makeT Proofs.Tryd.prog 44 = some (1, 8, [.int .i64 (0)]) := by kernel_rfl
theorem pl103_0 : placeOf Proofs.Tryd.prog 103 0 = some (0, 1) := by kernel_rfl
theorem pl103_1 : placeOf Proofs.Tryd.prog 103 1 = some (1, 1) := by kernel_rfl
theorem pl110_0 : placeOf Proofs.Tryd.prog 110 0 = some (0, 1) := by kernel_rfl
theorem pl110_1 : placeOf Proofs.Tryd.prog 110 1 = some (1, 1) := by kernel_rfl
theorem pl132_0 : placeOf Proofs.Tryd.prog 132 0 = some (0, 1) := by kernel_rfl
theorem pl132_1 : placeOf Proofs.Tryd.prog 132 1 = some (1, 1) := by kernel_rfl
theorem pl132_2 : placeOf Proofs.Tryd.prog 132 2 = some (2, 1) := by kernel_rfl
theorem pl141_0 : placeOf Proofs.Tryd.prog 141 0 = some (0, 1) := by kernel_rfl
theorem pl141_1 : placeOf Proofs.Tryd.prog 141 1 = some (1, 1) := by kernel_rfl
theorem pl32_0 : placeOf Proofs.Tryd.prog 32 0 = some (0, 1) := by kernel_rfl
theorem pl32_1 : placeOf Proofs.Tryd.prog 32 1 = some (1, 1) := by kernel_rfl
theorem pl35_0 : placeOf Proofs.Tryd.prog 35 0 = some (0, 1) := by kernel_rfl
theorem pl35_1 : placeOf Proofs.Tryd.prog 35 1 = some (1, 1) := by kernel_rfl
theorem pl35_2 : placeOf Proofs.Tryd.prog 35 2 = some (2, 1) := by kernel_rfl
theorem pl35_3 : placeOf Proofs.Tryd.prog 35 3 = some (3, 1) := by kernel_rfl
theorem pl52_0 : placeOf Proofs.Tryd.prog 52 0 = some (0, 1) := by kernel_rfl
theorem pl52_1 : placeOf Proofs.Tryd.prog 52 1 = some (1, 1) := by kernel_rfl
theorem pl59_0 : placeOf Proofs.Tryd.prog 59 0 = some (0, 1) := by kernel_rfl
theorem pl86_0 : placeOf Proofs.Tryd.prog 86 0 = some (0, 2) := by kernel_rfl
theorem pl86_1 : placeOf Proofs.Tryd.prog 86 1 = some (2, 4) := by kernel_rfl
theorem pl87_0 : placeOf Proofs.Tryd.prog 87 0 = some (0, 6) := by kernel_rfl
theorem pl87_1 : placeOf Proofs.Tryd.prog 87 1 = some (6, 6) := by kernel_rfl
theorem pl87_2 : placeOf Proofs.Tryd.prog 87 2 = some (12, 6) := by kernel_rfl
theorem pl94_0 : placeOf Proofs.Tryd.prog 94 0 = some (0, 8) := by kernel_rfl
theorem pl94_1 : placeOf Proofs.Tryd.prog 94 1 = some (8, 8) := by kernel_rfl
theorem pl94_2 : placeOf Proofs.Tryd.prog 94 2 = some (16, 8) := by kernel_rfl
theorem pl95_0 : placeOf Proofs.Tryd.prog 95 0 = some (0, 1) := by kernel_rfl
theorem pl95_1 : placeOf Proofs.Tryd.prog 95 1 = some (1, 1) := by kernel_rfl
theorem pl95_2 : placeOf Proofs.Tryd.prog 95 2 = some (2, 1) := by kernel_rfl
theorem pl95_3 : placeOf Proofs.Tryd.prog 95 3 = some (3, 1) := by kernel_rfl
theorem sl100 : isSliceT Proofs.Tryd.prog (some 100) = true := by kernel_rfl
theorem sl23 : isSliceT Proofs.Tryd.prog (some 23) = true := by kernel_rfl
theorem sl26 : isSliceT Proofs.Tryd.prog (some 26) = true := by kernel_rfl
theorem sl30 : isSliceT Proofs.Tryd.prog (some 30) = true := by kernel_rfl
theorem sl33 : isSliceT Proofs.Tryd.prog (some 33) = true := by kernel_rfl
theorem sl38 : isSliceT Proofs.Tryd.prog (some 38) = true := by kernel_rfl
theorem sl42 : isSliceT Proofs.Tryd.prog (some 42) = true := by kernel_rfl
theorem sl44 : isSliceT Proofs.Tryd.prog (some 44) = true := by kernel_rfl
theorem sz101 : sizeT Proofs.Tryd.prog 101 = some 1 := by kernel_rfl
theorem sz110 : sizeT Proofs.Tryd.prog 110 = some 2 := by kernel_rfl
theorem sz121 : sizeT Proofs.Tryd.prog 121 = some 1 := by kernel_rfl
theorem sz132 : sizeT Proofs.Tryd.prog 132 = some 3 := by kernel_rfl
theorem sz139 : sizeT Proofs.Tryd.prog 139 = some 1 := by kernel_rfl
theorem sz140 : sizeT Proofs.Tryd.prog 140 = some 1 := by kernel_rfl
theorem sz141 : sizeT Proofs.Tryd.prog 141 = some 2 := by kernel_rfl
theorem sz25 : sizeT Proofs.Tryd.prog 25 = some 4 := by kernel_rfl
theorem sz28 : sizeT Proofs.Tryd.prog 28 = some 7 := by kernel_rfl
theorem sz3 : sizeT Proofs.Tryd.prog 3 = some 1 := by kernel_rfl
theorem sz30 : sizeT Proofs.Tryd.prog 30 = some 1 := by kernel_rfl
theorem sz32 : sizeT Proofs.Tryd.prog 32 = some 2 := by kernel_rfl
theorem sz33 : sizeT Proofs.Tryd.prog 33 = some 1 := by kernel_rfl
theorem sz35 : sizeT Proofs.Tryd.prog 35 = some 4 := by kernel_rfl
theorem sz38 : sizeT Proofs.Tryd.prog 38 = some 1 := by kernel_rfl
theorem sz4 : sizeT Proofs.Tryd.prog 4 = some 1 := by kernel_rfl
theorem sz42 : sizeT Proofs.Tryd.prog 42 = some 1 := by kernel_rfl
theorem sz43 : sizeT Proofs.Tryd.prog 43 = some 1 := by kernel_rfl
theorem sz44 : sizeT Proofs.Tryd.prog 44 = some 1 := by kernel_rfl
theorem sz47 : sizeT Proofs.Tryd.prog 47 = some 1 := by kernel_rfl
theorem sz5 : sizeT Proofs.Tryd.prog 5 = some 1 := by kernel_rfl
theorem sz52 : sizeT Proofs.Tryd.prog 52 = some 2 := by kernel_rfl
theorem sz59 : sizeT Proofs.Tryd.prog 59 = some 8 := by kernel_rfl
theorem sz82 : sizeT Proofs.Tryd.prog 82 = some 3 := by kernel_rfl
theorem sz84 : sizeT Proofs.Tryd.prog 84 = some 5 := by kernel_rfl
theorem sz86 : sizeT Proofs.Tryd.prog 86 = some 6 := by kernel_rfl
theorem sz87 : sizeT Proofs.Tryd.prog 87 = some 18 := by kernel_rfl
theorem sz97 : sizeT Proofs.Tryd.prog 97 = some 1 := by kernel_rfl
theorem u116 : Program.underlying Proofs.Tryd.prog 116 = some (.int .u64) := by kernel_rfl
theorem u121 : Program.underlying Proofs.Tryd.prog 121 = some (.map 3 3) := by kernel_rfl
theorem u139 : Program.underlying Proofs.Tryd.prog 139 = some (.map 141 3) := by kernel_rfl
theorem u162 : Program.underlying Proofs.Tryd.prog 162 = some (.int .u32) := by kernel_rfl
theorem u3 : Program.underlying Proofs.Tryd.prog 3 = some (.int .i64) := by kernel_rfl
theorem u30 : Program.underlying Proofs.Tryd.prog 30 = some (.slice 52) := by kernel_rfl
theorem u33 : Program.underlying Proofs.Tryd.prog 33 = some (.slice 3) := by kernel_rfl
theorem u38 : Program.underlying Proofs.Tryd.prog 38 = some (.slice 47) := by kernel_rfl
theorem u4 : Program.underlying Proofs.Tryd.prog 4 = some .bool := by kernel_rfl
theorem u44 : Program.underlying Proofs.Tryd.prog 44 = some (.slice 3) := by kernel_rfl
theorem u45 : Program.underlying Proofs.Tryd.prog 45 = some (.map 3 47) := by kernel_rfl
theorem u47 : Program.underlying Proofs.Tryd.prog 47 = some (.int .u64) := by kernel_rfl
theorem u5 : Program.underlying Proofs.Tryd.prog 5 = some (.int .u8) := by kernel_rfl
theorem u52 : Program.underlying Proofs.Tryd.prog 52 = some (.array 2 3) := by kernel_rfl
theorem u59 : Program.underlying Proofs.Tryd.prog 59 = some (.array 8 47) := by kernel_rfl
theorem u87 : Program.underlying Proofs.Tryd.prog 87 = some (.array 3 86) := by kernel_rfl
theorem u9 : Program.underlying Proofs.Tryd.prog 9 = some .string := by kernel_rfl
theorem u94 : Program.underlying Proofs.Tryd.prog 94 = some (.array 3 59) := by kernel_rfl
theorem u95 : Program.underlying Proofs.Tryd.prog 95 = some (.array 4 44) := by kernel_rfl
theorem zc103 : zeroCellsT Proofs.Tryd.prog 103 = some [.int .i64 (0), .slice none 0 0, .nilFunc] := by kernel_rfl
theorem zc110 : zeroCellsT Proofs.Tryd.prog 110 = some [.bool false, .slice none 0 0] := by kernel_rfl
theorem zc121 : zeroCellsT Proofs.Tryd.prog 121 = some [.map none] := by kernel_rfl
theorem zc132 : zeroCellsT Proofs.Tryd.prog 132 = some [.int .i64 (0), .slice none 0 0, .slice none 0 0] := by kernel_rfl
theorem zc139 : zeroCellsT Proofs.Tryd.prog 139 = some [.map none] := by kernel_rfl
theorem zc140 : zeroCellsT Proofs.Tryd.prog 140 = some [.nilFunc] := by kernel_rfl
theorem zc141 : zeroCellsT Proofs.Tryd.prog 141 = some [.int .u64 (0), .int .u64 (0)] := by kernel_rfl
theorem zc25 : zeroCellsT Proofs.Tryd.prog 25 = some [.int .u8 (0), .int .u8 (0), .int .u16 (0), .slice none 0 0] := by kernel_rfl
theorem zc3 : zeroCellsT Proofs.Tryd.prog 3 = some [.int .i64 (0)] := by kernel_rfl
theorem zc32 : zeroCellsT Proofs.Tryd.prog 32 = some [.int .i64 (0), .slice none 0 0] := by kernel_rfl
theorem zc33 : zeroCellsT Proofs.Tryd.prog 33 = some [.slice none 0 0] := by kernel_rfl
theorem zc35 : zeroCellsT Proofs.Tryd.prog 35 = some [.slice none 0 0, .int .i64 (0), .int .i64 (0), .int .i64 (0)] := by kernel_rfl
theorem zc38 : zeroCellsT Proofs.Tryd.prog 38 = some [.slice none 0 0] := by kernel_rfl
theorem zc42 : zeroCellsT Proofs.Tryd.prog 42 = some [.slice none 0 0] := by kernel_rfl
theorem zc43 : zeroCellsT Proofs.Tryd.prog 43 = some [.nilFunc] := by kernel_rfl
theorem zc47 : zeroCellsT Proofs.Tryd.prog 47 = some [.int .u64 (0)] := by kernel_rfl
theorem zc52 : zeroCellsT Proofs.Tryd.prog 52 = some [.int .i64 (0), .int .i64 (0)] := by kernel_rfl
theorem zc59 : zeroCellsT Proofs.Tryd.prog 59 = some [.int .u64 (0), .int .u64 (0), .int .u64 (0), .int .u64 (0), .int .u64 (0), .int .u64 (0), .int .u64 (0), .int .u64 (0)] := by kernel_rfl
theorem zc86 : zeroCellsT Proofs.Tryd.prog 86 = some [.int .i64 (0), .slice none 0 0, .slice none 0 0, .int .i64 (0), .int .i64 (0), .int .i64 (0)] := by kernel_rfl
theorem zc87 : zeroCellsT Proofs.Tryd.prog 87 = some [.int .i64 (0), .slice none 0 0, .slice none 0 0, .int .i64 (0), .int .i64 (0), .int .i64 (0), .int .i64 (0), .slice none 0 0, .slice none 0 0, .int .i64 (0), .int .i64 (0), .int .i64 (0), .int .i64 (0), .slice none 0 0, .slice none 0 0, .int .i64 (0), .int .i64 (0), .int .i64 (0)] := by kernel_rfl
theorem zc94 : zeroCellsT Proofs.Tryd.prog 94 = some [.int .u64 (0), .int .u64 (0), .int .u64 (0), .int .u64 (0), .int .u64 (0), .int .u64 (0), .int .u64 (0), .int .u64 (0), .int .u64 (0), .int .u64 (0), .int .u64 (0), .int .u64 (0), .int .u64 (0), .int .u64 (0), .int .u64 (0), .int .u64 (0), .int .u64 (0), .int .u64 (0), .int .u64 (0), .int .u64 (0), .int .u64 (0), .int .u64 (0), .int .u64 (0), .int .u64 (0)] := by kernel_rfl
theorem zc95 : zeroCellsT Proofs.Tryd.prog 95 = some [.slice none 0 0, .slice none 0 0, .slice none 0 0, .slice none 0 0] := by kernel_rfl
theorem zc97 : zeroCellsT Proofs.Tryd.prog 97 = some [.pointer none] := by kernel_rfl
theorem ba30_30 (h : IH) (x y : Value) : builtin Proofs.Tryd.prog h .append #[30, 30] [x, y] = append Proofs.Tryd.prog h 30 x y := builtin_append Proofs.Tryd.prog h 30 30 x y sl30
theorem ba33_33 (h : IH) (x y : Value) : builtin Proofs.Tryd.prog h .append #[33, 33] [x, y] = append Proofs.Tryd.prog h 33 x y := builtin_append Proofs.Tryd.prog h 33 33 x y sl33
theorem ba38_38 (h : IH) (x y : Value) : builtin Proofs.Tryd.prog h .append #[38, 38] [x, y] = append Proofs.Tryd.prog h 38 x y := builtin_append Proofs.Tryd.prog h 38 38 x y sl38
theorem ba42_42 (h : IH) (x y : Value) : builtin Proofs.Tryd.prog h .append #[42, 42] [x, y] = append Proofs.Tryd.prog h 42 x y := builtin_append Proofs.Tryd.prog h 42 42 x y sl42
theorem ba44_44 (h : IH) (x y : Value) : builtin Proofs.Tryd.prog h .append #[44, 44] [x, y] = append Proofs.Tryd.prog h 44 x y := builtin_append Proofs.Tryd.prog h 44 44 x y sl44
theorem be4 (ox oy : Operand) (a b : Bool) : binop Proofs.Tryd.prog .eql 4 ox oy (.bool a) (.bool b) = some (.bool (a == b)) := binop_eql_bool u4 ox oy a b
theorem bn4 (ox oy : Operand) (a b : Bool) : binop Proofs.Tryd.prog .neq 4 ox oy (.bool a) (.bool b) = some (.bool (!(a == b))) := binop_neq_bool u4 ox oy a b
theorem bs100 (h : IH) (len : Nat) (ps : List (Nat × Value)) (hl : len * 1 ≤ 16777216) : buildSlice Proofs.Tryd.prog h 100 len ps = (fillP (fun i => some (i * 1, 1)) (repl len [.bool false]) ps).map fun cells => (.slice (some ⟨2 * h.n, 0, none⟩) len (2 * len + 1), h.new (.cells cells 1 none)) := buildSlice_eq mk100 h len ps hl
theorem bs30 (h : IH) (len : Nat) (ps : List (Nat × Value)) (hl : len * 2 ≤ 16777216) : buildSlice Proofs.Tryd.prog h 30 len ps = (fillP (fun i => some (i * 2, 2)) (repl len [.int .i64 (0), .int .i64 (0)]) ps).map fun cells => (.slice (some ⟨2 * h.n, 0, none⟩) len (2 * len + 1), h.new (.cells cells 2 none)) := buildSlice_eq mk30 h len ps hl
theorem bs33 (h : IH) (len : Nat) (ps : List (Nat × Value)) (hl : len * 1 ≤ 16777216) : buildSlice Proofs.Tryd.prog h 33 len ps = (fillP (fun i => some (i * 1, 1)) (repl len [.int .i64 (0)]) ps).map fun cells => (.slice (some ⟨2 * h.n, 0, none⟩) len (2 * len + 1), h.new (.cells cells 1 none)) := buildSlice_eq mk33 h len ps hl
theorem bs38 (h : IH) (len : Nat) (ps : List (Nat × Value)) (hl : len * 1 ≤ 16777216) : buildSlice Proofs.Tryd.prog h 38 len ps = (fillP (fun i => some (i * 1, 1)) (repl len [.int .u64 (0)]) ps).map fun cells => (.slice (some ⟨2 * h.n, 0, none⟩) len (2 * len + 1), h.new (.cells cells 1 none)) := buildSlice_eq mk38 h len ps hl
theorem bs42 (h : IH) (len : Nat) (ps : List (Nat × Value)) (hl : len * 1 ≤ 16777216) : buildSlice Proofs.Tryd.prog h 42 len ps = (fillP (fun i => some (i * 1, 1)) (repl len [.slice none 0 0]) ps).map fun cells => (.slice (some ⟨2 * h.n, 0, none⟩) len (2 * len + 1), h.new (.cells cells 1 none)) := buildSlice_eq mk42 h len ps hl
theorem bs44 (h : IH) (len : Nat) (ps : List (Nat × Value)) (hl : len * 1 ≤ 16777216) : buildSlice Proofs.Tryd.prog h 44 len ps = (fillP (fun i => some (i * 1, 1)) (repl len [.int .i64 (0)]) ps).map fun cells => (.slice (some ⟨2 * h.n, 0, none⟩) len (2 * len + 1), h.new (.cells cells 1 none)) := buildSlice_eq mk44 h len ps hl
theorem bv103 (ps : List (Nat × Value)) : buildV Proofs.Tryd.prog 103 ps = (fillP (placeOf Proofs.Tryd.prog 103) [.int .i64 (0), .slice none 0 0, .nilFunc] ps).map fun cs => .agg cs.toArray := buildV_eq zc103 as103 ps
theorem bv110 (ps : List (Nat × Value)) : buildV Proofs.Tryd.prog 110 ps = (fillP (placeOf Proofs.Tryd.prog 110) [.bool false, .slice none 0 0] ps).map fun cs => .agg cs.toArray := buildV_eq zc110 as110 ps
theorem bv132 (ps : List (Nat × Value)) : buildV Proofs.Tryd.prog 132 ps = (fillP (placeOf Proofs.Tryd.prog 132) [.int .i64 (0), .slice none 0 0, .slice none 0 0] ps).map fun cs => .agg cs.toArray := buildV_eq zc132 as132 ps
theorem bv141 (ps : List (Nat × Value)) : buildV Proofs.Tryd.prog 141 ps = (fillP (placeOf Proofs.Tryd.prog 141) [.int .u64 (0), .int .u64 (0)] ps).map fun cs => .agg cs.toArray := buildV_eq zc141 as141 ps
theorem bv32 (ps : List (Nat × Value)) : buildV Proofs.Tryd.prog 32 ps = (fillP (placeOf Proofs.Tryd.prog 32) [.int .i64 (0), .slice none 0 0] ps).map fun cs => .agg cs.toArray := buildV_eq zc32 as32 ps
theorem bv35 (ps : List (Nat × Value)) : buildV Proofs.Tryd.prog 35 ps = (fillP (placeOf Proofs.Tryd.prog 35) [.slice none 0 0, .int .i64 (0), .int .i64 (0), .int .i64 (0)] ps).map fun cs => .agg cs.toArray := buildV_eq zc35 as35 ps
theorem bv52 (ps : List (Nat × Value)) : buildV Proofs.Tryd.prog 52 ps = (fillP (placeOf Proofs.Tryd.prog 52) [.int .i64 (0), .int .i64 (0)] ps).map fun cs => .agg cs.toArray := buildV_eq zc52 as52 ps
theorem bv59 (ps : List (Nat × Value)) : buildV Proofs.Tryd.prog 59 ps = (fillP (placeOf Proofs.Tryd.prog 59) [.int .u64 (0), .int .u64 (0), .int .u64 (0), .int .u64 (0), .int .u64 (0), .int .u64 (0), .int .u64 (0), .int .u64 (0)] ps).map fun cs => .agg cs.toArray := buildV_eq zc59 as59 ps
theorem bv86 (ps : List (Nat × Value)) : buildV Proofs.Tryd.prog 86 ps = (fillP (placeOf Proofs.Tryd.prog 86) [.int .i64 (0), .slice none 0 0, .slice none 0 0, .int .i64 (0), .int .i64 (0), .int .i64 (0)] ps).map fun cs => .agg cs.toArray := buildV_eq zc86 as86 ps
theorem bv87 (ps : List (Nat × Value)) : buildV Proofs.Tryd.prog 87 ps = (fillP (placeOf Proofs.Tryd.prog 87) [.int .i64 (0), .slice none 0 0, .slice none 0 0, .int .i64 (0), .int .i64 (0), .int .i64 (0), .int .i64 (0), .slice none 0 0, .slice none 0 0, .int .i64 (0), .int .i64 (0), .int .i64 (0), .int .i64 (0), .slice none 0 0, .slice none 0 0, .int .i64 (0), .int .i64 (0), .int .i64 (0)] ps).map fun cs => .agg cs.toArray := buildV_eq zc87 as87 ps
theorem bv94 (ps : List (Nat × Value)) : buildV Proofs.Tryd.prog 94 ps = (fillP (placeOf Proofs.Tryd.prog 94) [.int .u64 (0), .int .u64 (0), .int .u64 (0), .int .u64 (0), .int .u64 (0), .int .u64 (0), .int .u64 (0), .int .u64 (0), .int .u64 (0), .int .u64 (0), .int .u64 (0), .int .u64 (0), .int .u64 (0), .int .u64 (0), .int .u64 (0), .int .u64 (0), .int .u64 (0), .int .u64 (0), .int .u64 (0), .int .u64 (0), .int .u64 (0), .int .u64 (0), .int .u64 (0), .int .u64 (0)] ps).map fun cs => .agg cs.toArray := buildV_eq zc94 as94 ps
theorem bv95 (ps : List (Nat × Value)) : buildV Proofs.Tryd.prog 95 ps = (fillP (placeOf Proofs.Tryd.prog 95) [.slice none 0 0, .slice none 0 0, .slice none 0 0, .slice none 0 0] ps).map fun cs => .agg cs.toArray := buildV_eq zc95 as95 ps
theorem cv116_162 (k : IntKind) (n : Int) : convV Proofs.Tryd.prog 116 162 (.int k n) = some (.int .u32 (IntKind.u32.wrap n)) := convV_int is116 u162
theorem cv116_3 (k : IntKind) (n : Int) : convV Proofs.Tryd.prog 116 3 (.int k n) = some (.int .i64 (IntKind.i64.wrap n)) := convV_int is116 u3
theorem cv162_116 (k : IntKind) (n : Int) : convV Proofs.Tryd.prog 162 116 (.int k n) = some (.int .u64 (IntKind.u64.wrap n)) := convV_int is162 u116
theorem cv162_47 (k : IntKind) (n : Int) : convV Proofs.Tryd.prog 162 47 (.int k n) = some (.int .u64 (IntKind.u64.wrap n)) := convV_int is162 u47
theorem cv22_3 (k : IntKind) (n : Int) : convV Proofs.Tryd.prog 22 3 (.int k n) = some (.int .i64 (IntKind.i64.wrap n)) := convV_int is22 u3
theorem cv3_116 (k : IntKind) (n : Int) : convV Proofs.Tryd.prog 3 116 (.int k n) = some (.int .u64 (IntKind.u64.wrap n)) := convV_int is3 u116
theorem cv3_47 (k : IntKind) (n : Int) : convV Proofs.Tryd.prog 3 47 (.int k n) = some (.int .u64 (IntKind.u64.wrap n)) := convV_int is3 u47
theorem cv47_162 (k : IntKind) (n : Int) : convV Proofs.Tryd.prog 47 162 (.int k n) = some (.int .u32 (IntKind.u32.wrap n)) := convV_int is47 u162
theorem cv47_3 (k : IntKind) (n : Int) : convV Proofs.Tryd.prog 47 3 (.int k n) = some (.int .i64 (IntKind.i64.wrap n)) := convV_int is47 u3
theorem cv47_5 (k : IntKind) (n : Int) : convV Proofs.Tryd.prog 47 5 (.int k n) = some (.int .u8 (IntKind.u8.wrap n)) := convV_int is47 u5
theorem cv5_3 (k : IntKind) (n : Int) : convV Proofs.Tryd.prog 5 3 (.int k n) = some (.int .i64 (IntKind.i64.wrap n)) := convV_int is5 u3
theorem ld100 (h : IH) (b o : Nat) : load Proofs.Tryd.prog h 100 (ptr b o) = ld h b o := load_scal ag100 h b o
theorem ld101 (h : IH) (b o : Nat) : load Proofs.Tryd.prog h 101 (ptr b o) = ld h b o := load_scal ag101 h b o
theorem ld110 (h : IH) (b o : Nat) : load Proofs.Tryd.prog h 110 (ptr b o) = (h.rd b o 2).map fun cs => .agg cs.toArray := load_agg ag110 sz110 h b o
theorem ld121 (h : IH) (b o : Nat) : load Proofs.Tryd.prog h 121 (ptr b o) = ld h b o := load_scal ag121 h b o
theorem ld132 (h : IH) (b o : Nat) : load Proofs.Tryd.prog h 132 (ptr b o) = (h.rd b o 3).map fun cs => .agg cs.toArray := load_agg ag132 sz132 h b o
theorem ld139 (h : IH) (b o : Nat) : load Proofs.Tryd.prog h 139 (ptr b o) = ld h b o := load_scal ag139 h b o
theorem ld140 (h : IH) (b o : Nat) : load Proofs.Tryd.prog h 140 (ptr b o) = ld h b o := load_scal ag140 h b o
theorem ld141 (h : IH) (b o : Nat) : load Proofs.Tryd.prog h 141 (ptr b o) = (h.rd b o 2).map fun cs => .agg cs.toArray := load_agg ag141 sz141 h b o
theorem ld22 (h : IH) (b o : Nat) : load Proofs.Tryd.prog h 22 (ptr b o) = ld h b o := load_scal ag22 h b o
theorem ld23 (h : IH) (b o : Nat) : load Proofs.Tryd.prog h 23 (ptr b o) = ld h b o := load_scal ag23 h b o
theorem ld25 (h : IH) (b o : Nat) : load Proofs.Tryd.prog h 25 (ptr b o) = (h.rd b o 4).map fun cs => .agg cs.toArray := load_agg ag25 sz25 h b o
theorem ld26 (h : IH) (b o : Nat) : load Proofs.Tryd.prog h 26 (ptr b o) = ld h b o := load_scal ag26 h b o
theorem ld28 (h : IH) (b o : Nat) : load Proofs.Tryd.prog h 28 (ptr b o) = (h.rd b o 7).map fun cs => .agg cs.toArray := load_agg ag28 sz28 h b o
theorem ld3 (h : IH) (b o : Nat) : load Proofs.Tryd.prog h 3 (ptr b o) = ld h b o := load_scal ag3 h b o
theorem ld30 (h : IH) (b o : Nat) : load Proofs.Tryd.prog h 30 (ptr b o) = ld h b o := load_scal ag30 h b o
theorem ld32 (h : IH) (b o : Nat) : load Proofs.Tryd.prog h 32 (ptr b o) = (h.rd b o 2).map fun cs => .agg cs.toArray := load_agg ag32 sz32 h b o
theorem ld33 (h : IH) (b o : Nat) : load Proofs.Tryd.prog h 33 (ptr b o) = ld h b o := load_scal ag33 h b o
theorem ld35 (h : IH) (b o : Nat) : load Proofs.Tryd.prog h 35 (ptr b o) = (h.rd b o 4).map fun cs => .agg cs.toArray := load_agg ag35 sz35 h b o
theorem ld38 (h : IH) (b o : Nat) : load Proofs.Tryd.prog h 38 (ptr b o) = ld h b o := load_scal ag38 h b o
theorem ld4 (h : IH) (b o : Nat) : load Proofs.Tryd.prog h 4 (ptr b o) = ld h b o := load_scal ag4 h b o
theorem ld42 (h : IH) (b o : Nat) : load Proofs.Tryd.prog h 42 (ptr b o) = ld h b o := load_scal ag42 h b o
theorem ld43 (h : IH) (b o : Nat) : load Proofs.Tryd.prog h 43 (ptr b o) = ld h b o := load_scal ag43 h b o
theorem ld44 (h : IH) (b o : Nat) : load Proofs.Tryd.prog h 44 (ptr b o) = ld h b o := load_scal ag44 h b o
theorem ld47 (h : IH) (b o : Nat) : load Proofs.Tryd.prog h 47 (ptr b o) = ld h b o := load_scal ag47 h b o
theorem ld5 (h : IH) (b o : Nat) : load Proofs.Tryd.prog h 5 (ptr b o) = ld h b o := load_scal ag5 h b o
theorem ld52 (h : IH) (b o : Nat) : load Proofs.Tryd.prog h 52 (ptr b o) = (h.rd b o 2).map fun cs => .agg cs.toArray := load_agg ag52 sz52 h b o
theorem ld59 (h : IH) (b o : Nat) : load Proofs.Tryd.prog h 59 (ptr b o) = (h.rd b o 8).map fun cs => .agg cs.toArray := load_agg ag59 sz59 h b o
theorem ld82 (h : IH) (b o : Nat) : load Proofs.Tryd.prog h 82 (ptr b o) = (h.rd b o 3).map fun cs => .agg cs.toArray := load_agg ag82 sz82 h b o
theorem ld84 (h : IH) (b o : Nat) : load Proofs.Tryd.prog h 84 (ptr b o) = (h.rd b o 5).map fun cs => .agg cs.toArray := load_agg ag84 sz84 h b o
theorem ld87 (h : IH) (b o : Nat) : load Proofs.Tryd.prog h 87 (ptr b o) = (h.rd b o 18).map fun cs => .agg cs.toArray := load_agg ag87 sz87 h b o
theorem ld97 (h : IH) (b o : Nat) : load Proofs.Tryd.prog h 97 (ptr b o) = ld h b o := load_scal ag97 h b o
theorem ln100 (h : IH) (a : Option Addr) (n c : Nat) : lenB Proofs.Tryd.prog h 100 (.slice a n c) = some (.int .i64 n) := lenB_slice sl100 h a n c
theorem ln23 (h : IH) (a : Option Addr) (n c : Nat) : lenB Proofs.Tryd.prog h 23 (.slice a n c) = some (.int .i64 n) := lenB_slice sl23 h a n c
theorem ln26 (h : IH) (a : Option Addr) (n c : Nat) : lenB Proofs.Tryd.prog h 26 (.slice a n c) = some (.int .i64 n) := lenB_slice sl26 h a n c
theorem ln30 (h : IH) (a : Option Addr) (n c : Nat) : lenB Proofs.Tryd.prog h 30 (.slice a n c) = some (.int .i64 n) := lenB_slice sl30 h a n c
theorem ln33 (h : IH) (a : Option Addr) (n c : Nat) : lenB Proofs.Tryd.prog h 33 (.slice a n c) = some (.int .i64 n) := lenB_slice sl33 h a n c
theorem ln38 (h : IH) (a : Option Addr) (n c : Nat) : lenB Proofs.Tryd.prog h 38 (.slice a n c) = some (.int .i64 n) := lenB_slice sl38 h a n c
theorem ln42 (h : IH) (a : Option Addr) (n c : Nat) : lenB Proofs.Tryd.prog h 42 (.slice a n c) = some (.int .i64 n) := lenB_slice sl42 h a n c
theorem ln44 (h : IH) (a : Option Addr) (n c : Nat) : lenB Proofs.Tryd.prog h 44 (.slice a n c) = some (.int .i64 n) := lenB_slice sl44 h a n c
theorem ms100 (h : IH) (k j : IntKind) {l c : Int} (h0 : 0 ≤ l) (h1 : l ≤ c) (h2 : c * 2 ≤ 1099511627776) : makeSlice Proofs.Tryd.prog h 100 (.int k l) (.int j c) = some (.slice (some ⟨2 * h.n, 0, none⟩) l.toNat (2 * c.toNat + 1), h.new (.cells (repl c.toNat [.bool false]) 1 none)) := makeSlice_eq mk100 h k j h0 h1 h2
theorem ms30 (h : IH) (k j : IntKind) {l c : Int} (h0 : 0 ≤ l) (h1 : l ≤ c) (h2 : c * 17 ≤ 1099511627776) : makeSlice Proofs.Tryd.prog h 30 (.int k l) (.int j c) = some (.slice (some ⟨2 * h.n, 0, none⟩) l.toNat (2 * c.toNat + 1), h.new (.cells (repl c.toNat [.int .i64 (0), .int .i64 (0)]) 2 none)) := makeSlice_eq mk30 h k j h0 h1 h2
theorem ms33 (h : IH) (k j : IntKind) {l c : Int} (h0 : 0 ≤ l) (h1 : l ≤ c) (h2 : c * 9 ≤ 1099511627776) : makeSlice Proofs.Tryd.prog h 33 (.int k l) (.int j c) = some (.slice (some ⟨2 * h.n, 0, none⟩) l.toNat (2 * c.toNat + 1), h.new (.cells (repl c.toNat [.int .i64 (0)]) 1 none)) := makeSlice_eq mk33 h k j h0 h1 h2
theorem ms38 (h : IH) (k j : IntKind) {l c : Int} (h0 : 0 ≤ l) (h1 : l ≤ c) (h2 : c * 9 ≤ 1099511627776) : makeSlice Proofs.Tryd.prog h 38 (.int k l) (.int j c) = some (.slice (some ⟨2 * h.n, 0, none⟩) l.toNat (2 * c.toNat + 1), h.new (.cells (repl c.toNat [.int .u64 (0)]) 1 none)) := makeSlice_eq mk38 h k j h0 h1 h2
theorem ms42 (h : IH) (k j : IntKind) {l c : Int} (h0 : 0 ≤ l) (h1 : l ≤ c) (h2 : c * 25 ≤ 1099511627776) : makeSlice Proofs.Tryd.prog h 42 (.int k l) (.int j c) = some (.slice (some ⟨2 * h.n, 0, none⟩) l.toNat (2 * c.toNat + 1), h.new (.cells (repl c.toNat [.slice none 0 0]) 1 none)) := makeSlice_eq mk42 h k j h0 h1 h2
theorem ms44 (h : IH) (k j : IntKind) {l c : Int} (h0 : 0 ≤ l) (h1 : l ≤ c) (h2 : c * 9 ≤ 1099511627776) : makeSlice Proofs.Tryd.prog h 44 (.int k l) (.int j c) = some (.slice (some ⟨2 * h.n, 0, none⟩) l.toNat (2 * c.toNat + 1), h.new (.cells (repl c.toNat [.int .i64 (0)]) 1 none)) := makeSlice_eq mk44 h k j h0 h1 h2
theorem st101 (h : IH) (k o : Nat) (v : Value) : store Proofs.Tryd.prog h 101 (ptr (2 * k) o) v = stE 1 h k o v.cells.toList (h.ext.get k) := store_stE sz101 h k o v
theorem st110 (h : IH) (k o : Nat) (v : Value) : store Proofs.Tryd.prog h 110 (ptr (2 * k) o) v = stE 2 h k o v.cells.toList (h.ext.get k) := store_stE sz110 h k o v
theorem st121 (h : IH) (k o : Nat) (v : Value) : store Proofs.Tryd.prog h 121 (ptr (2 * k) o) v = stE 1 h k o v.cells.toList (h.ext.get k) := store_stE sz121 h k o v
theorem st132 (h : IH) (k o : Nat) (v : Value) : store Proofs.Tryd.prog h 132 (ptr (2 * k) o) v = stE 3 h k o v.cells.toList (h.ext.get k) := store_stE sz132 h k o v
theorem st139 (h : IH) (k o : Nat) (v : Value) : store Proofs.Tryd.prog h 139 (ptr (2 * k) o) v = stE 1 h k o v.cells.toList (h.ext.get k) := store_stE sz139 h k o v
theorem st140 (h : IH) (k o : Nat) (v : Value) : store Proofs.Tryd.prog h 140 (ptr (2 * k) o) v = stE 1 h k o v.cells.toList (h.ext.get k) := store_stE sz140 h k o v
theorem st141 (h : IH) (k o : Nat) (v : Value) : store Proofs.Tryd.prog h 141 (ptr (2 * k) o) v = stE 2 h k o v.cells.toList (h.ext.get k) := store_stE sz141 h k o v
theorem st25 (h : IH) (k o : Nat) (v : Value) : store Proofs.Tryd.prog h 25 (ptr (2 * k) o) v = stE 4 h k o v.cells.toList (h.ext.get k) := store_stE sz25 h k o v
theorem st3 (h : IH) (k o : Nat) (v : Value) : store Proofs.Tryd.prog h 3 (ptr (2 * k) o) v = stE 1 h k o v.cells.toList (h.ext.get k) := store_stE sz3 h k o v
theorem st30 (h : IH) (k o : Nat) (v : Value) : store Proofs.Tryd.prog h 30 (ptr (2 * k) o) v = stE 1 h k o v.cells.toList (h.ext.get k) := store_stE sz30 h k o v
theorem st32 (h : IH) (k o : Nat) (v : Value) : store Proofs.Tryd.prog h 32 (ptr (2 * k) o) v = stE 2 h k o v.cells.toList (h.ext.get k) := store_stE sz32 h k o v
theorem st33 (h : IH) (k o : Nat) (v : Value) : store Proofs.Tryd.prog h 33 (ptr (2 * k) o) v = stE 1 h k o v.cells.toList (h.ext.get k) := store_stE sz33 h k o v
theorem st35 (h : IH) (k o : Nat) (v : Value) : store Proofs.Tryd.prog h 35 (ptr (2 * k) o) v = stE 4 h k o v.cells.toList (h.ext.get k) := store_stE sz35 h k o v
theorem st38 (h : IH) (k o : Nat) (v : Value) : store Proofs.Tryd.prog h 38 (ptr (2 * k) o) v = stE 1 h k o v.cells.toList (h.ext.get k) := store_stE sz38 h k o v
theorem st4 (h : IH) (k o : Nat) (v : Value) : store Proofs.Tryd.prog h 4 (ptr (2 * k) o) v = stE 1 h k o v.cells.toList (h.ext.get k) := store_stE sz4 h k o v
theorem st42 (h : IH) (k o : Nat) (v : Value) : store Proofs.Tryd.prog h 42 (ptr (2 * k) o) v = stE 1 h k o v.cells.toList (h.ext.get k) := store_stE sz42 h k o v
theorem st43 (h : IH) (k o : Nat) (v : Value) : store Proofs.Tryd.prog h 43 (ptr (2 * k) o) v = stE 1 h k o v.cells.toList (h.ext.get k) := store_stE sz43 h k o v
theorem st47 (h : IH) (k o : Nat) (v : Value) : store Proofs.Tryd.prog h 47 (ptr (2 * k) o) v = stE 1 h k o v.cells.toList (h.ext.get k) := store_stE sz47 h k o v
theorem st5 (h : IH) (k o : Nat) (v : Value) : store Proofs.Tryd.prog h 5 (ptr (2 * k) o) v = stE 1 h k o v.cells.toList (h.ext.get k) := store_stE sz5 h k o v
theorem st52 (h : IH) (k o : Nat) (v : Value) : store Proofs.Tryd.prog h 52 (ptr (2 * k) o) v = stE 2 h k o v.cells.toList (h.ext.get k) := store_stE sz52 h k o v
theorem st59 (h : IH) (k o : Nat) (v : Value) : store Proofs.Tryd.prog h 59 (ptr (2 * k) o) v = stE 8 h k o v.cells.toList (h.ext.get k) := store_stE sz59 h k o v
theorem st86 (h : IH) (k o : Nat) (v : Value) : store Proofs.Tryd.prog h 86 (ptr (2 * k) o) v = stE 6 h k o v.cells.toList (h.ext.get k) := store_stE sz86 h k o v
theorem st87 (h : IH) (k o : Nat) (v : Value) : store Proofs.Tryd.prog h 87 (ptr (2 * k) o) v = stE 18 h k o v.cells.toList (h.ext.get k) := store_stE sz87 h k o v
theorem st97 (h : IH) (k o : Nat) (v : Value) : store Proofs.Tryd.prog h 97 (ptr (2 * k) o) v = stE 1 h k o v.cells.toList (h.ext.get k) := store_stE sz97 h k o v
end Go.Id

/-! Contracts: Go's package slices, for numbers. -/
namespace Go.Id
open Go

theorem equal64_ok {h : IH} {v w : Value} {a b : List Nat} (ha : SlNow h 1 v a.length (a.map K64)) (hb : SlNow h 1 w b.length (b.map K64)) (la : a.length ≤ 1000000000) (hinj : ∀ x ∈ a, ∀ y ∈ b, ∀ o1 o2, binop Proofs.Tryd.prog .neq 47 o1 o2 (K64 x) (K64 y) = some (.bool (decide (x ≠ y)))) :
    WV Proofs.Tryd.prog (.func (.func 42) #[] #[]) [v, w] h fun r h' => h' = h ∧ r = .bool (decide (a = b)) := by
  have hln : a.length = b.length ∨ a.length ≠ b.length := by omega
  refine enter (nt := 26) (rs := [.tmp 4]) Proofs.Tryd.func42 rfl rfl rfl (by simp) ?_
  simp -dsimp (maxSteps := 1000000) (disch := first | omega | (simp only [new_n, put_n]; omega) | decide +kernel | (repeat first | rw [new_n] | rw [put_n])) only [wpS, wpT, Nat.reduceEqDiff, reduceIte, Nat.reduceLT, Nat.reduceLeDiff, Nat.reduceAdd, Nat.reduceMul, Nat.reduceBEq, Int.reduceToNat, es38, ld47, ln38, ha.len sl38, hb.len sl38]
  refine bq_intro ?_ ?_ <;> intro hc <;> simp only [bne_iff_ne, beq_iff_eq, decide_eq_true_eq, decide_eq_false_iff_not, bne_eq_false_iff_eq, beq_eq_false_iff_ne, ne_eq, Bool.not_eq_true', Bool.not_eq_false', Bool.not_eq_true, Bool.not_eq_false, Decidable.not_not, Bool.not_not] at hc
  · simp -dsimp (maxSteps := 1000000) (disch := first | omega | (simp only [new_n, put_n]; omega) | decide +kernel | (repeat first | rw [new_n] | rw [put_n])) only [wpS, wpT, Nat.reduceEqDiff, reduceIte, Nat.reduceLT, Nat.reduceLeDiff, Nat.reduceAdd, Nat.reduceMul, Nat.reduceBEq, Int.reduceToNat, es38, ld47, ln38]
    rw [decide_eq_false]
    rintro rfl; exact hc rfl
  · have hl : a.length = b.length := by omega
    simp -dsimp (maxSteps := 1000000) (disch := first | omega | (simp only [new_n, put_n]; omega) | decide +kernel | (repeat first | rw [new_n] | rw [put_n])) only [wpS, wpT, Nat.reduceEqDiff, reduceIte, Nat.reduceLT, Nat.reduceLeDiff, Nat.reduceAdd, Nat.reduceMul, Nat.reduceBEq, Int.reduceToNat, es38, ld47, ln38, ha.len sl38]
    refine loop (fun m fr h1 => h1 = h ∧ ∃ i : Nat, i + m = a.length ∧ fget fr 0 = some v ∧ fget fr 1 = some w ∧ fget fr 12 = some (KI a.length) ∧ fget fr 13 = some (KI i) ∧ ∀ j, j < i → a[j]? = b[j]?) a.length ⟨rfl, 0, by simp, by simp, by simp, by simp, by simp, by simp⟩ ?_
    rintro m fr h1 ⟨rfl, i, him, f0, f1, f12, f13, hz⟩
    simp -dsimp (maxSteps := 1000000) (disch := first | omega | (simp only [new_n, put_n]; omega) | decide +kernel | (repeat first | rw [new_n] | rw [put_n])) only [wpS, wpT, Nat.reduceEqDiff, reduceIte, Nat.reduceLT, Nat.reduceLeDiff, Nat.reduceAdd, Nat.reduceMul, Nat.reduceBEq, Int.reduceToNat, es38, ld47, ln38, f12, f13]
    refine bq_intro ?_ ?_ <;> intro hc2 <;> simp only [bne_iff_ne, beq_iff_eq, decide_eq_true_eq, decide_eq_false_iff_not, bne_eq_false_iff_eq, beq_eq_false_iff_ne, ne_eq, Bool.not_eq_true', Bool.not_eq_false', Bool.not_eq_true, Bool.not_eq_false, Decidable.not_not, Bool.not_not] at hc2
    · have hi : i < a.length := by omega
      obtain ⟨x, hx⟩ : ∃ x, a[i]? = some x := ⟨a[i], List.getElem?_eq_getElem hi⟩
      obtain ⟨y, hy⟩ : ∃ y, b[i]? = some y := ⟨b[i]'(by omega), List.getElem?_eq_getElem (by omega)⟩
      have hn := hinj x (List.mem_of_getElem? hx) y (List.mem_of_getElem? hy)
      simp -dsimp (maxSteps := 1000000) (disch := first | omega | (simp only [new_n, put_n]; omega) | decide +kernel | (repeat first | rw [new_n] | rw [put_n])) only [wpS, wpT, Nat.reduceEqDiff, reduceIte, Nat.reduceLT, Nat.reduceLeDiff, Nat.reduceAdd, Nat.reduceMul, Nat.reduceBEq, Int.reduceToNat, es38, ld47, ln38, f0, f1, f13, ha.idx es38 hi, ha.ld (P := Proofs.Tryd.prog) (t := 47) (c := i) (by simpa using hi) ag47, hb.idx es38 (show i < b.length by omega), hb.ld (P := Proofs.Tryd.prog) (t := 47) (c := i) (by simp; omega) ag47, List.getElem?_map, hx, hy, hn]
      refine bq_intro ?_ ?_ <;> intro hc3 <;> simp only [bne_iff_ne, beq_iff_eq, decide_eq_true_eq, decide_eq_false_iff_not, bne_eq_false_iff_eq, beq_eq_false_iff_ne, ne_eq, Bool.not_eq_true', Bool.not_eq_false', Bool.not_eq_true, Bool.not_eq_false, Decidable.not_not, Bool.not_not] at hc3
      · simp -dsimp (maxSteps := 1000000) (disch := first | omega | (simp only [new_n, put_n]; omega) | decide +kernel | (repeat first | rw [new_n] | rw [put_n])) only [wpS, wpT, Nat.reduceEqDiff, reduceIte, Nat.reduceLT, Nat.reduceLeDiff, Nat.reduceAdd, Nat.reduceMul, Nat.reduceBEq, Int.reduceToNat, es38, ld47, ln38]
        rw [decide_eq_false]
        rintro rfl
        rw [hx] at hy; cases hy; exact hc3 rfl
      · simp -dsimp (maxSteps := 1000000) (disch := first | omega | (simp only [new_n, put_n]; omega) | decide +kernel | (repeat first | rw [new_n] | rw [put_n])) only [wpS, wpT, Nat.reduceEqDiff, reduceIte, Nat.reduceLT, Nat.reduceLeDiff, Nat.reduceAdd, Nat.reduceMul, Nat.reduceBEq, Int.reduceToNat, es38, ld47, ln38, f13]
        refine ⟨m - 1, by omega, rfl, i + 1, by omega, by simp [f0], by simp [f1], by simp [f12], by simp, fun j hj => ?_⟩
        by_cases hji : j = i
        · subst hji; rw [hx, hy]; congr 1
        · exact hz j (by omega)
    · simp -dsimp (maxSteps := 1000000) (disch := first | omega | (simp only [new_n, put_n]; omega) | decide +kernel | (repeat first | rw [new_n] | rw [put_n])) only [wpS, wpT, Nat.reduceEqDiff, reduceIte, Nat.reduceLT, Nat.reduceLeDiff, Nat.reduceAdd, Nat.reduceMul, Nat.reduceBEq, Int.reduceToNat, es38, ld47, ln38]
      rw [decide_eq_true]
      apply List.ext_getElem?
      intro j
      by_cases hj : j < i
      · exact hz j hj
      · rw [List.getElem?_eq_none (by omega), List.getElem?_eq_none (by omega)]

theorem equalP_ok {h : IH} {v w : Value} {a b : List Int} (ha : SlNow h 1 v a.length (a.map KI)) (hb : SlNow h 1 w b.length (b.map KI)) (la : a.length ≤ 1000000000) (hinj : ∀ x ∈ a, ∀ y ∈ b, ∀ o1 o2, binop Proofs.Tryd.prog .neq 3 o1 o2 (KI x) (KI y) = some (.bool (decide (x ≠ y)))) :
    WV Proofs.Tryd.prog (.func (.func 25) #[] #[]) [v, w] h fun r h' => h' = h ∧ r = .bool (decide (a = b)) := by
  have hln : a.length = b.length ∨ a.length ≠ b.length := by omega
  refine enter (nt := 26) (rs := [.tmp 4]) Proofs.Tryd.func25 rfl rfl rfl (by simp) ?_
  simp -dsimp (maxSteps := 1000000) (disch := first | omega | (simp only [new_n, put_n]; omega) | decide +kernel | (repeat first | rw [new_n] | rw [put_n])) only [wpS, wpT, Nat.reduceEqDiff, reduceIte, Nat.reduceLT, Nat.reduceLeDiff, Nat.reduceAdd, Nat.reduceMul, Nat.reduceBEq, Int.reduceToNat, es44, ld3, ln44, ha.len sl44, hb.len sl44]
  refine bq_intro ?_ ?_ <;> intro hc <;> simp only [bne_iff_ne, beq_iff_eq, decide_eq_true_eq, decide_eq_false_iff_not, bne_eq_false_iff_eq, beq_eq_false_iff_ne, ne_eq, Bool.not_eq_true', Bool.not_eq_false', Bool.not_eq_true, Bool.not_eq_false, Decidable.not_not, Bool.not_not] at hc
  · simp -dsimp (maxSteps := 1000000) (disch := first | omega | (simp only [new_n, put_n]; omega) | decide +kernel | (repeat first | rw [new_n] | rw [put_n])) only [wpS, wpT, Nat.reduceEqDiff, reduceIte, Nat.reduceLT, Nat.reduceLeDiff, Nat.reduceAdd, Nat.reduceMul, Nat.reduceBEq, Int.reduceToNat, es44, ld3, ln44]
    rw [decide_eq_false]
    rintro rfl; exact hc rfl
  · have hl : a.length = b.length := by omega
    simp -dsimp (maxSteps := 1000000) (disch := first | omega | (simp only [new_n, put_n]; omega) | decide +kernel | (repeat first | rw [new_n] | rw [put_n])) only [wpS, wpT, Nat.reduceEqDiff, reduceIte, Nat.reduceLT, Nat.reduceLeDiff, Nat.reduceAdd, Nat.reduceMul, Nat.reduceBEq, Int.reduceToNat, es44, ld3, ln44, ha.len sl44]
    refine loop (fun m fr h1 => h1 = h ∧ ∃ i : Nat, i + m = a.length ∧ fget fr 0 = some v ∧ fget fr 1 = some w ∧ fget fr 12 = some (KI a.length) ∧ fget fr 13 = some (KI i) ∧ ∀ j, j < i → a[j]? = b[j]?) a.length ⟨rfl, 0, by simp, by simp, by simp, by simp, by simp, by simp⟩ ?_
    rintro m fr h1 ⟨rfl, i, him, f0, f1, f12, f13, hz⟩
    simp -dsimp (maxSteps := 1000000) (disch := first | omega | (simp only [new_n, put_n]; omega) | decide +kernel | (repeat first | rw [new_n] | rw [put_n])) only [wpS, wpT, Nat.reduceEqDiff, reduceIte, Nat.reduceLT, Nat.reduceLeDiff, Nat.reduceAdd, Nat.reduceMul, Nat.reduceBEq, Int.reduceToNat, es44, ld3, ln44, f12, f13]
    refine bq_intro ?_ ?_ <;> intro hc2 <;> simp only [bne_iff_ne, beq_iff_eq, decide_eq_true_eq, decide_eq_false_iff_not, bne_eq_false_iff_eq, beq_eq_false_iff_ne, ne_eq, Bool.not_eq_true', Bool.not_eq_false', Bool.not_eq_true, Bool.not_eq_false, Decidable.not_not, Bool.not_not] at hc2
    · have hi : i < a.length := by omega
      obtain ⟨x, hx⟩ : ∃ x, a[i]? = some x := ⟨a[i], List.getElem?_eq_getElem hi⟩
      obtain ⟨y, hy⟩ : ∃ y, b[i]? = some y := ⟨b[i]'(by omega), List.getElem?_eq_getElem (by omega)⟩
      have hn := hinj x (List.mem_of_getElem? hx) y (List.mem_of_getElem? hy)
      simp -dsimp (maxSteps := 1000000) (disch := first | omega | (simp only [new_n, put_n]; omega) | decide +kernel | (repeat first | rw [new_n] | rw [put_n])) only [wpS, wpT, Nat.reduceEqDiff, reduceIte, Nat.reduceLT, Nat.reduceLeDiff, Nat.reduceAdd, Nat.reduceMul, Nat.reduceBEq, Int.reduceToNat, es44, ld3, ln44, f0, f1, f13, ha.idx es44 hi, ha.ld (P := Proofs.Tryd.prog) (t := 3) (c := i) (by simpa using hi) ag3, hb.idx es44 (show i < b.length by omega), hb.ld (P := Proofs.Tryd.prog) (t := 3) (c := i) (by simp; omega) ag3, List.getElem?_map, hx, hy, hn]
      refine bq_intro ?_ ?_ <;> intro hc3 <;> simp only [bne_iff_ne, beq_iff_eq, decide_eq_true_eq, decide_eq_false_iff_not, bne_eq_false_iff_eq, beq_eq_false_iff_ne, ne_eq, Bool.not_eq_true', Bool.not_eq_false', Bool.not_eq_true, Bool.not_eq_false, Decidable.not_not, Bool.not_not] at hc3
      · simp -dsimp (maxSteps := 1000000) (disch := first | omega | (simp only [new_n, put_n]; omega) | decide +kernel | (repeat first | rw [new_n] | rw [put_n])) only [wpS, wpT, Nat.reduceEqDiff, reduceIte, Nat.reduceLT, Nat.reduceLeDiff, Nat.reduceAdd, Nat.reduceMul, Nat.reduceBEq, Int.reduceToNat, es44, ld3, ln44]
        rw [decide_eq_false]
        rintro rfl
        rw [hx] at hy; cases hy; exact hc3 rfl
      · simp -dsimp (maxSteps := 1000000) (disch := first | omega | (simp only [new_n, put_n]; omega) | decide +kernel | (repeat first | rw [new_n] | rw [put_n])) only [wpS, wpT, Nat.reduceEqDiff, reduceIte, Nat.reduceLT, Nat.reduceLeDiff, Nat.reduceAdd, Nat.reduceMul, Nat.reduceBEq, Int.reduceToNat, es44, ld3, ln44, f13]
        refine ⟨m - 1, by omega, rfl, i + 1, by omega, by simp [f0], by simp [f1], by simp [f12], by simp, fun j hj => ?_⟩
        by_cases hji : j = i
        · subst hji; rw [hx, hy]; congr 1
        · exact hz j (by omega)
    · simp -dsimp (maxSteps := 1000000) (disch := first | omega | (simp only [new_n, put_n]; omega) | decide +kernel | (repeat first | rw [new_n] | rw [put_n])) only [wpS, wpT, Nat.reduceEqDiff, reduceIte, Nat.reduceLT, Nat.reduceLeDiff, Nat.reduceAdd, Nat.reduceMul, Nat.reduceBEq, Int.reduceToNat, es44, ld3, ln44]
      rw [decide_eq_true]
      apply List.ext_getElem?
      intro j
      by_cases hj : j < i
      · exact hz j hj
      · rw [List.getElem?_eq_none (by omega), List.getElem?_eq_none (by omega)]

theorem isNaN_i {h : IH} (x : Int) : WV Proofs.Tryd.prog (.func (.func 96) #[] #[]) [KI x] h fun r h' => h' = h ∧ r = .bool false := by
  refine enter (nt := 6) (rs := [.tmp 2]) Proofs.Tryd.func96 rfl rfl rfl (by simp) ?_
  simp -dsimp (maxSteps := 1000000) (disch := first | omega | (simp only [new_n, put_n]; omega) | decide +kernel | (repeat first | rw [new_n] | rw [put_n])) only [wpS, wpT, Nat.reduceEqDiff, reduceIte, Nat.reduceLT, Nat.reduceLeDiff, Nat.reduceAdd, Nat.reduceMul, Nat.reduceBEq, Int.reduceToNat]
theorem isNaN_u {h : IH} (x : Int) : WV Proofs.Tryd.prog (.func (.func 95) #[] #[]) [.int .u64 x] h fun r h' => h' = h ∧ r = .bool false := by
  refine enter (nt := 6) (rs := [.tmp 2]) Proofs.Tryd.func95 rfl rfl rfl (by simp) ?_
  simp -dsimp (maxSteps := 1000000) (disch := first | omega | (simp only [new_n, put_n]; omega) | decide +kernel | (repeat first | rw [new_n] | rw [put_n])) only [wpS, wpT, Nat.reduceEqDiff, reduceIte, Nat.reduceLT, Nat.reduceLeDiff, Nat.reduceAdd, Nat.reduceMul, Nat.reduceBEq, Int.reduceToNat]
theorem sisNaN_u {h : IH} (x : Int) : WV Proofs.Tryd.prog (.func (.func 66) #[] #[]) [.int .u64 x] h fun r h' => h' = h ∧ r = .bool false := by
  refine enter (nt := 6) (rs := [.tmp 2]) Proofs.Tryd.func66 rfl rfl rfl (by simp) ?_
  simp -dsimp (maxSteps := 1000000) (disch := first | omega | (simp only [new_n, put_n]; omega) | decide +kernel | (repeat first | rw [new_n] | rw [put_n])) only [wpS, wpT, Nat.reduceEqDiff, reduceIte, Nat.reduceLT, Nat.reduceLeDiff, Nat.reduceAdd, Nat.reduceMul, Nat.reduceBEq, Int.reduceToNat]
theorem cmp_i {h : IH} (x y : Int) : WV Proofs.Tryd.prog (.func (.func 65) #[] #[]) [KI x, KI y] h fun r h' => h' = h ∧ r = KI (if x < y then -1 else if y < x then 1 else 0) := by
  refine enter (nt := 20) (rs := [.tmp 4]) Proofs.Tryd.func65 rfl rfl rfl (by simp) ?_
  simp -dsimp (maxSteps := 1000000) (disch := first | omega | (simp only [new_n, put_n]; omega) | decide +kernel | (repeat first | rw [new_n] | rw [put_n])) only [wpS, wpT, Nat.reduceEqDiff, reduceIte, Nat.reduceLT, Nat.reduceLeDiff, Nat.reduceAdd, Nat.reduceMul, Nat.reduceBEq, Int.reduceToNat]
  refine call (isNaN_i x) ?_
  rintro _ _ ⟨rfl, rfl⟩
  simp -dsimp (maxSteps := 1000000) (disch := first | omega | (simp only [new_n, put_n]; omega) | decide +kernel | (repeat first | rw [new_n] | rw [put_n])) only [wpS, wpT, Nat.reduceEqDiff, reduceIte, Nat.reduceLT, Nat.reduceLeDiff, Nat.reduceAdd, Nat.reduceMul, Nat.reduceBEq, Int.reduceToNat]
  refine call (isNaN_i y) ?_
  rintro _ _ ⟨rfl, rfl⟩
  by_cases h1 : x < y
  · simp -dsimp (maxSteps := 1000000) (disch := first | omega | (simp only [new_n, put_n]; omega) | decide +kernel | (repeat first | rw [new_n] | rw [put_n])) only [wpS, wpT, Nat.reduceEqDiff, reduceIte, Nat.reduceLT, Nat.reduceLeDiff, Nat.reduceAdd, Nat.reduceMul, Nat.reduceBEq, Int.reduceToNat, if_pos h1]
  · by_cases h2 : y < x
    · simp -dsimp (maxSteps := 1000000) (disch := first | omega | (simp only [new_n, put_n]; omega) | decide +kernel | (repeat first | rw [new_n] | rw [put_n])) only [wpS, wpT, Nat.reduceEqDiff, reduceIte, Nat.reduceLT, Nat.reduceLeDiff, Nat.reduceAdd, Nat.reduceMul, Nat.reduceBEq, Int.reduceToNat, if_pos h2, if_neg h1]
    · simp -dsimp (maxSteps := 1000000) (disch := first | omega | (simp only [new_n, put_n]; omega) | decide +kernel | (repeat first | rw [new_n] | rw [put_n])) only [wpS, wpT, Nat.reduceEqDiff, reduceIte, Nat.reduceLT, Nat.reduceLeDiff, Nat.reduceAdd, Nat.reduceMul, Nat.reduceBEq, Int.reduceToNat, if_neg h2, if_neg h1]
theorem less_u {h : IH} (x y : Int) : WV Proofs.Tryd.prog (.func (.func 64) #[] #[]) [.int .u64 x, .int .u64 y] h fun r h' => h' = h ∧ r = .bool (decide (x < y)) := by
  refine enter (nt := 17) (rs := [.tmp 4]) Proofs.Tryd.func64 rfl rfl rfl (by simp) ?_
  simp -dsimp (maxSteps := 1000000) (disch := first | omega | (simp only [new_n, put_n]; omega) | decide +kernel | (repeat first | rw [new_n] | rw [put_n])) only [wpS, wpT, Nat.reduceEqDiff, reduceIte, Nat.reduceLT, Nat.reduceLeDiff, Nat.reduceAdd, Nat.reduceMul, Nat.reduceBEq, Int.reduceToNat]
  refine call (isNaN_u x) ?_
  rintro _ _ ⟨rfl, rfl⟩
  simp -dsimp (maxSteps := 1000000) (disch := first | omega | (simp only [new_n, put_n]; omega) | decide +kernel | (repeat first | rw [new_n] | rw [put_n])) only [wpS, wpT, Nat.reduceEqDiff, reduceIte, Nat.reduceLT, Nat.reduceLeDiff, Nat.reduceAdd, Nat.reduceMul, Nat.reduceBEq, Int.reduceToNat]

theorem clone64_ok {h : IH} {v : Value} {n : Nat} {cs : List Value} (hs : SlOf h 1 v n cs) (hne : v = .slice none 0 0 ∨ 0 < n) (hc : cs.all cellOK = true) (hn : n ≤ 1000000000) :
    WV Proofs.Tryd.prog (.func (.func 92) #[] #[]) [v] h fun r h' => Ext h h' ∧ Acc h' h.n 1 r n cs := by
  have hnow := hs.now
  obtain ⟨hz, hl, ⟨rfl, rfl⟩ | ⟨b, o, k, rfl, hh⟩⟩ := hs
  · refine enter (nt := 8) (rs := [.tmp 2]) Proofs.Tryd.func92 rfl rfl rfl (by simp) ?_
    simp -dsimp (maxSteps := 1000000) (disch := first | omega | (simp only [new_n, put_n]; omega) | decide +kernel | (repeat first | rw [new_n] | rw [put_n])) only [wpS, wpT, Nat.reduceEqDiff, reduceIte, Nat.reduceLT, Nat.reduceLeDiff, Nat.reduceAdd, Nat.reduceMul, Nat.reduceBEq, Int.reduceToNat, bs38, ba38_38, nil_eq_none u38]
    obtain rfl : cs = [] := List.length_eq_zero_iff.1 (by omega)
    exact ⟨Ext.refl _, Acc.nil _ _ (by omega)⟩
  · have hp : 0 < n := by
      rcases hne with h1 | h1
      · cases h1
      · exact h1
    have hk : Ext h (h.new (.cells [] 1 none)) := (Ext.refl h).new _
    have hnow2 : SlNow (h.new (.cells [] 1 none)) 1 (.slice (some ⟨b, o, none⟩) n k) n cs := (SlOf.keep ⟨hz, hl, .inr ⟨b, o, k, rfl, hh⟩⟩ hk.keep).now
    refine enter (nt := 8) (rs := [.tmp 2]) Proofs.Tryd.func92 rfl rfl rfl (by simp) ?_
    simp -dsimp (maxSteps := 1000000) (disch := first | omega | (simp only [new_n, put_n]; omega) | decide +kernel | (repeat first | rw [new_n] | rw [put_n])) only [wpS, wpT, Nat.reduceEqDiff, reduceIte, Nat.reduceLT, Nat.reduceLeDiff, Nat.reduceAdd, Nat.reduceMul, Nat.reduceBEq, Int.reduceToNat, bs38, ba38_38, nil_eq_some u38, append_zero ap38 _ hnow2 hp hc (by omega)]
    refine ⟨hk.new _, ?_⟩
    exact (acc_new (by omega) hl hp).from (by simp)
def cmpL : List Int → List Int → Int
  | [], [] => 0
  | [], _ :: _ => -1
  | _ :: _, [] => 1
  | x :: a, y :: b => if x < y then -1 else if y < x then 1 else cmpL a b
theorem compare_ok {h : IH} {v w : Value} {a b : List Int} (ha : SlNow h 1 v a.length (a.map KI)) (hb : SlNow h 1 w b.length (b.map KI)) (hl : a.length = b.length) (la : a.length ≤ 1000000000) :
    WV Proofs.Tryd.prog (.func (.func 93) #[] #[]) [v, w] h fun r h' => h' = h ∧ r = KI (cmpL a b) := by
  refine enter (nt := 36) (rs := [.tmp 4]) Proofs.Tryd.func93 rfl rfl rfl (by simp) ?_
  simp -dsimp (maxSteps := 1000000) (disch := first | omega | (simp only [new_n, put_n]; omega) | decide +kernel | (repeat first | rw [new_n] | rw [put_n])) only [wpS, wpT, Nat.reduceEqDiff, reduceIte, Nat.reduceLT, Nat.reduceLeDiff, Nat.reduceAdd, Nat.reduceMul, Nat.reduceBEq, Int.reduceToNat, es33, ld3, ln33, ha.len sl33]
  refine loop (fun m fr h1 => h1 = h ∧ ∃ i : Nat, i + m = a.length ∧ fget fr 0 = some v ∧ fget fr 1 = some w ∧ fget fr 9 = some v ∧ fget fr 10 = some (KI a.length) ∧ fget fr 11 = some (KI i) ∧ cmpL a b = cmpL (a.drop i) (b.drop i)) a.length ⟨rfl, 0, by simp, by simp, by simp, by simp, by simp, by simp, by simp⟩ ?_
  rintro m fr h1 ⟨rfl, i, him, f0, f1, f9, f10, f11, hz⟩
  simp -dsimp (maxSteps := 1000000) (disch := first | omega | (simp only [new_n, put_n]; omega) | decide +kernel | (repeat first | rw [new_n] | rw [put_n])) only [wpS, wpT, Nat.reduceEqDiff, reduceIte, Nat.reduceLT, Nat.reduceLeDiff, Nat.reduceAdd, Nat.reduceMul, Nat.reduceBEq, Int.reduceToNat, es33, ld3, ln33, f10, f11]
  refine bq_intro ?_ ?_ <;> intro hc2 <;> simp only [bne_iff_ne, beq_iff_eq, decide_eq_true_eq, decide_eq_false_iff_not, bne_eq_false_iff_eq, beq_eq_false_iff_ne, ne_eq, Bool.not_eq_true', Bool.not_eq_false', Bool.not_eq_true, Bool.not_eq_false, Decidable.not_not, Bool.not_not] at hc2
  · have hi : i < a.length := by omega
    obtain ⟨x, hx⟩ : ∃ x, a[i]? = some x := ⟨a[i], List.getElem?_eq_getElem hi⟩
    obtain ⟨y, hy⟩ : ∃ y, b[i]? = some y := ⟨b[i]'(by omega), List.getElem?_eq_getElem (by omega)⟩
    simp -dsimp (maxSteps := 1000000) (disch := first | omega | (simp only [new_n, put_n]; omega) | decide +kernel | (repeat first | rw [new_n] | rw [put_n])) only [wpS, wpT, Nat.reduceEqDiff, reduceIte, Nat.reduceLT, Nat.reduceLeDiff, Nat.reduceAdd, Nat.reduceMul, Nat.reduceBEq, Int.reduceToNat, es33, ld3, ln33, f0, f1, f9, f11, hb.len sl33, ha.idx es33 hi, ha.ld (P := Proofs.Tryd.prog) (t := 3) (c := i) (by simpa using hi) ag3, hb.idx es33 (show i < b.length by omega), hb.ld (P := Proofs.Tryd.prog) (t := 3) (c := i) (by simp; omega) ag3, List.getElem?_map, hx, hy]
    refine call (cmp_i x y) ?_
    rintro _ _ ⟨rfl, rfl⟩
    have ea : a.drop i = x :: a.drop (i + 1) := by
      have h1 := List.getElem?_eq_some_iff.1 hx
      rw [← h1.2, List.getElem_cons_drop_succ_eq_drop]
    have eb : b.drop i = y :: b.drop (i + 1) := by
      have h1 := List.getElem?_eq_some_iff.1 hy
      rw [← h1.2, List.getElem_cons_drop_succ_eq_drop]
    rw [ea, eb, cmpL] at hz
    by_cases c1 : x < y
    · rw [if_pos c1] at hz
      simp -dsimp (maxSteps := 1000000) (disch := first | omega | (simp only [new_n, put_n]; omega) | decide +kernel | (repeat first | rw [new_n] | rw [put_n])) only [wpS, wpT, Nat.reduceEqDiff, reduceIte, Nat.reduceLT, Nat.reduceLeDiff, Nat.reduceAdd, Nat.reduceMul, Nat.reduceBEq, Int.reduceToNat, es33, ld3, ln33, if_pos c1]
      rw [hz]
    · by_cases c2 : y < x
      · rw [if_neg c1, if_pos c2] at hz
        simp -dsimp (maxSteps := 1000000) (disch := first | omega | (simp only [new_n, put_n]; omega) | decide +kernel | (repeat first | rw [new_n] | rw [put_n])) only [wpS, wpT, Nat.reduceEqDiff, reduceIte, Nat.reduceLT, Nat.reduceLeDiff, Nat.reduceAdd, Nat.reduceMul, Nat.reduceBEq, Int.reduceToNat, es33, ld3, ln33, if_pos c2, if_neg c1]
        rw [hz]
      · rw [if_neg c1, if_neg c2] at hz
        simp -dsimp (maxSteps := 1000000) (disch := first | omega | (simp only [new_n, put_n]; omega) | decide +kernel | (repeat first | rw [new_n] | rw [put_n])) only [wpS, wpT, Nat.reduceEqDiff, reduceIte, Nat.reduceLT, Nat.reduceLeDiff, Nat.reduceAdd, Nat.reduceMul, Nat.reduceBEq, Int.reduceToNat, es33, ld3, ln33, if_neg c2, if_neg c1, f11]
        exact ⟨m - 1, by omega, rfl, i + 1, by omega, by simp [f0], by simp [f1], by simp [f9], by simp [f10], by simp, hz⟩
  · simp -dsimp (maxSteps := 1000000) (disch := first | omega | (simp only [new_n, put_n]; omega) | decide +kernel | (repeat first | rw [new_n] | rw [put_n])) only [wpS, wpT, Nat.reduceEqDiff, reduceIte, Nat.reduceLT, Nat.reduceLeDiff, Nat.reduceAdd, Nat.reduceMul, Nat.reduceBEq, Int.reduceToNat, es33, ld3, ln33, f0, f1, ha.len sl33, hb.len sl33]
    rw [hz, List.drop_of_length_le (by omega), List.drop_of_length_le (by omega)]; rfl
theorem indexFunc_ok {h : IH} {v fv : Value} {a : List Int} (p : Int → Bool) (ha : SlNow h 1 v a.length (a.map KI)) (la : a.length ≤ 1000000000) (hp : ∀ x ∈ a, WV Proofs.Tryd.prog fv [KI x] h fun r h' => h' = h ∧ r = .bool (p x)) :
    WV Proofs.Tryd.prog (.func (.func 94) #[] #[]) [v, fv] h fun r h' => h' = h ∧ ∃ c : Int, r = KI c ∧ (0 ≤ c ↔ a.any p = true) := by
  refine enter (nt := 19) (rs := [.tmp 4]) Proofs.Tryd.func94 rfl rfl rfl (by simp) ?_
  simp -dsimp (maxSteps := 1000000) (disch := first | omega | (simp only [new_n, put_n]; omega) | decide +kernel | (repeat first | rw [new_n] | rw [put_n])) only [wpS, wpT, Nat.reduceEqDiff, reduceIte, Nat.reduceLT, Nat.reduceLeDiff, Nat.reduceAdd, Nat.reduceMul, Nat.reduceBEq, Int.reduceToNat, es33, ld3, ln33, ha.len sl33]
  refine loop (fun m fr h1 => h1 = h ∧ ∃ i : Nat, i + m = a.length ∧ fget fr 0 = some v ∧ fget fr 1 = some fv ∧ fget fr 7 = some (KI a.length) ∧ fget fr 8 = some (KI i) ∧ a.any p = (a.drop i).any p) a.length ⟨rfl, 0, by simp, by simp, by simp, by simp, by simp, by simp⟩ ?_
  rintro m fr h1 ⟨rfl, i, him, f0, f1, f7, f8, hz⟩
  simp -dsimp (maxSteps := 1000000) (disch := first | omega | (simp only [new_n, put_n]; omega) | decide +kernel | (repeat first | rw [new_n] | rw [put_n])) only [wpS, wpT, Nat.reduceEqDiff, reduceIte, Nat.reduceLT, Nat.reduceLeDiff, Nat.reduceAdd, Nat.reduceMul, Nat.reduceBEq, Int.reduceToNat, es33, ld3, ln33, f7, f8]
  refine bq_intro ?_ ?_ <;> intro hc2 <;> simp only [bne_iff_ne, beq_iff_eq, decide_eq_true_eq, decide_eq_false_iff_not, bne_eq_false_iff_eq, beq_eq_false_iff_ne, ne_eq, Bool.not_eq_true', Bool.not_eq_false', Bool.not_eq_true, Bool.not_eq_false, Decidable.not_not, Bool.not_not] at hc2
  · have hi : i < a.length := by omega
    obtain ⟨x, hx⟩ : ∃ x, a[i]? = some x := ⟨a[i], List.getElem?_eq_getElem hi⟩
    simp -dsimp (maxSteps := 1000000) (disch := first | omega | (simp only [new_n, put_n]; omega) | decide +kernel | (repeat first | rw [new_n] | rw [put_n])) only [wpS, wpT, Nat.reduceEqDiff, reduceIte, Nat.reduceLT, Nat.reduceLeDiff, Nat.reduceAdd, Nat.reduceMul, Nat.reduceBEq, Int.reduceToNat, es33, ld3, ln33, f0, f1, f8, ha.idx es33 hi, ha.ld (P := Proofs.Tryd.prog) (t := 3) (c := i) (by simpa using hi) ag3, List.getElem?_map, hx]
    refine call (hp x (List.mem_of_getElem? hx)) ?_
    rintro _ _ ⟨rfl, rfl⟩
    have ea : a.drop i = x :: a.drop (i + 1) := by
      have h1 := List.getElem?_eq_some_iff.1 hx
      rw [← h1.2, List.getElem_cons_drop_succ_eq_drop]
    rw [ea, List.any_cons] at hz
    simp -dsimp (maxSteps := 1000000) (disch := first | omega | (simp only [new_n, put_n]; omega) | decide +kernel | (repeat first | rw [new_n] | rw [put_n])) only [wpS, wpT, Nat.reduceEqDiff, reduceIte, Nat.reduceLT, Nat.reduceLeDiff, Nat.reduceAdd, Nat.reduceMul, Nat.reduceBEq, Int.reduceToNat, es33, ld3, ln33]
    refine bq_intro ?_ ?_ <;> intro hc
    · simp -dsimp (maxSteps := 1000000) (disch := first | omega | (simp only [new_n, put_n]; omega) | decide +kernel | (repeat first | rw [new_n] | rw [put_n])) only [wpS, wpT, Nat.reduceEqDiff, reduceIte, Nat.reduceLT, Nat.reduceLeDiff, Nat.reduceAdd, Nat.reduceMul, Nat.reduceBEq, Int.reduceToNat, es33, ld3, ln33]
      exact ⟨_, rfl, by rw [hz, hc]; simp⟩
    · simp -dsimp (maxSteps := 1000000) (disch := first | omega | (simp only [new_n, put_n]; omega) | decide +kernel | (repeat first | rw [new_n] | rw [put_n])) only [wpS, wpT, Nat.reduceEqDiff, reduceIte, Nat.reduceLT, Nat.reduceLeDiff, Nat.reduceAdd, Nat.reduceMul, Nat.reduceBEq, Int.reduceToNat, es33, ld3, ln33, f8]
      rw [hc, Bool.false_or] at hz
      exact ⟨m - 1, by omega, rfl, i + 1, by omega, by simp [f0], by simp [f1], by simp [f7], by simp, hz⟩
  · simp -dsimp (maxSteps := 1000000) (disch := first | omega | (simp only [new_n, put_n]; omega) | decide +kernel | (repeat first | rw [new_n] | rw [put_n])) only [wpS, wpT, Nat.reduceEqDiff, reduceIte, Nat.reduceLT, Nat.reduceLeDiff, Nat.reduceAdd, Nat.reduceMul, Nat.reduceBEq, Int.reduceToNat, es33, ld3, ln33]
    exact ⟨_, rfl, by rw [hz, List.drop_of_length_le (by omega)]; simp⟩
theorem containsFunc_ok {h : IH} {v fv : Value} {a : List Int} (p : Int → Bool) (ha : SlNow h 1 v a.length (a.map KI)) (la : a.length ≤ 1000000000) (hp : ∀ x ∈ a, WV Proofs.Tryd.prog fv [KI x] h fun r h' => h' = h ∧ r = .bool (p x)) :
    WV Proofs.Tryd.prog (.func (.func 62) #[] #[]) [v, fv] h fun r h' => h' = h ∧ r = .bool (a.any p) := by
  refine enter (nt := 9) (rs := [.tmp 4]) Proofs.Tryd.func62 rfl rfl rfl (by simp) ?_
  simp -dsimp (maxSteps := 1000000) (disch := first | omega | (simp only [new_n, put_n]; omega) | decide +kernel | (repeat first | rw [new_n] | rw [put_n])) only [wpS, wpT, Nat.reduceEqDiff, reduceIte, Nat.reduceLT, Nat.reduceLeDiff, Nat.reduceAdd, Nat.reduceMul, Nat.reduceBEq, Int.reduceToNat]
  refine call (indexFunc_ok p ha la hp) ?_
  rintro _ _ ⟨rfl, c, rfl, hc⟩
  simp -dsimp (maxSteps := 1000000) (disch := first | omega | (simp only [new_n, put_n]; omega) | decide +kernel | (repeat first | rw [new_n] | rw [put_n])) only [wpS, wpT, Nat.reduceEqDiff, reduceIte, Nat.reduceLT, Nat.reduceLeDiff, Nat.reduceAdd, Nat.reduceMul, Nat.reduceBEq, Int.reduceToNat]
  cases hb : a.any p
  · rw [hb] at hc
    simp at hc
    simp; exact hc
  · rw [hb] at hc
    simp at hc
    simp; exact hc
end Go.Id

/-! The lowest bit of a number: plain numbers. -/
namespace Go.Id

theorem exists_odd : ∀ u : Nat, 0 < u → ∃ k m, u = 2 ^ k * (2 * m + 1) := by
  intro u
  induction u using Nat.strongRecOn with
  | _ u ih =>
    intro hu
    rcases Nat.mod_two_eq_zero_or_one u with h | h
    · obtain ⟨k, m, e⟩ := ih (u / 2) (by omega) (by omega)
      refine ⟨k + 1, m, ?_⟩
      rw [Nat.pow_succ]
      have : u = u / 2 * 2 := by omega
      rw [this, e]; grind
    · exact ⟨0, u / 2, by rw [Nat.pow_zero]; omega⟩
theorem bit_odd (k m i : Nat) : (2 ^ k * (2 * m + 1)).testBit i = if i < k then false else if i = k then true else m.testBit (i - k - 1) := by
  rw [Nat.testBit_two_pow_mul]
  by_cases h : i < k
  · simp [h, show ¬ k ≤ i by omega]
  · rw [if_neg h]
    by_cases h2 : i = k
    · subst h2; simp
    · rw [if_neg h2]
      obtain ⟨j, hj⟩ : ∃ j, i - k = j + 1 := ⟨i - k - 1, by omega⟩
      rw [hj, Nat.testBit_succ]
      simp [show k ≤ i by omega, show (2 * m + 1) / 2 = m by omega]
theorem bit_odd_pred (k m i : Nat) : (2 ^ k * (2 * m + 1) - 1).testBit i = if i < k then true else if i = k then false else m.testBit (i - k - 1) := by
  have hp : 0 < 2 ^ k := Nat.pow_pos (by omega)
  have e : 2 ^ k * (2 * m + 1) - 1 = 2 ^ k * (2 * m) + (2 ^ k - 1) := by
    have : 2 ^ k * (2 * m + 1) = 2 ^ k * (2 * m) + 2 ^ k := by grind
    omega
  rw [e, Nat.testBit_two_pow_mul_add _ (by omega)]
  by_cases h : i < k
  · rw [if_pos h, if_pos h, Nat.testBit_two_pow_sub_one]; simpa using h
  · rw [if_neg h, if_neg h]
    by_cases h2 : i = k
    · subst h2; simp
    · rw [if_neg h2]
      obtain ⟨j, hj⟩ : ∃ j, i - k = j + 1 := ⟨i - k - 1, by omega⟩
      rw [hj, Nat.testBit_succ]
      simp [show 2 * m / 2 = m by omega]
/-- u & -u -/
theorem and_neg (k m : Nat) (h : 2 ^ k * (2 * m + 1) < 18446744073709551616) : 2 ^ k * (2 * m + 1) &&& (18446744073709551616 - 2 ^ k * (2 * m + 1)) = 2 ^ k := by
  have hp : 0 < 2 ^ k * (2 * m + 1) := Nat.mul_pos (Nat.pow_pos (by omega)) (by omega)
  apply Nat.eq_of_testBit_eq
  intro i
  have e : 18446744073709551616 - 2 ^ k * (2 * m + 1) = 2 ^ 64 - ((2 ^ k * (2 * m + 1) - 1) + 1) := by omega
  rw [Nat.testBit_and, e, Nat.testBit_two_pow_sub_succ (by omega), bit_odd_pred, bit_odd, Nat.testBit_two_pow]
  by_cases h1 : i < k
  · simp [h1]; omega
  · by_cases h2 : i = k
    · subst h2
      have : i < 64 := by
        apply Classical.byContradiction; intro hn
        have h3 : 2 ^ 64 ≤ 2 ^ i := Nat.pow_le_pow_right (by omega) (by omega)
        have h4 : 2 ^ i * 1 ≤ 2 ^ i * (2 * m + 1) := Nat.mul_le_mul_left _ (by omega)
        omega
      simp [this]
    · simp [h1, h2, show ¬ k = i by omega]
      intro a _; exact a
theorem low_lt {k m : Nat} (h : 2 ^ k * (2 * m + 1) < 18446744073709551616) : k < 64 := by
  apply Classical.byContradiction; intro hn
  have h3 : 2 ^ 64 ≤ 2 ^ k := Nat.pow_le_pow_right (by omega) (by omega)
  have h4 : 2 ^ k * 1 ≤ 2 ^ k * (2 * m + 1) := Nat.mul_le_mul_left _ (by omega)
  omega
/-- k is the place of the lowest bit. -/
def Low (u k : Nat) : Prop := u.testBit k = true ∧ ∀ j, j < k → u.testBit j = false
theorem low_odd (k m : Nat) : Low (2 ^ k * (2 * m + 1)) k := by
  refine ⟨by rw [bit_odd]; simp, fun j hj => by rw [bit_odd, if_pos hj]⟩
theorem Low.uniq {u k l : Nat} (a : Low u k) (b : Low u l) : k = l := by
  rcases Nat.lt_trichotomy k l with h | h | h
  · have := b.2 k h; rw [a.1] at this; cases this
  · exact h
  · have := a.2 l h; rw [b.1] at this; cases this
def tab64 : List Nat := [0, 1, 56, 2, 57, 49, 28, 3, 61, 58, 42, 50, 38, 29, 17, 4, 62, 47, 59, 36, 45, 43, 51, 22, 53, 39, 33, 30, 24, 18, 12, 5, 63, 55, 48, 27, 60, 41, 37, 16, 46, 35, 44, 21, 52, 32, 23, 11, 54, 26, 40, 15, 34, 20, 31, 10, 25, 14, 19, 9, 13, 8, 7, 6]
theorem tab64_ok : ∀ k, k < 64 → tab64[2 ^ k * 285870213051353865 % 18446744073709551616 / 288230376151711744]? = some k := by decide
/-- The place of the lowest bit, by looking. -/
def lowB : Nat → Nat → Nat
  | 0, _ => 0
  | f + 1, u => if u % 2 = 1 then 0 else lowB f (u / 2) + 1
theorem lowB_ok : ∀ (f u : Nat), 0 < u → u < 2 ^ f → Low u (lowB f u)
  | 0, u, h, h2 => by simp at h2; omega
  | f + 1, u, h, h2 => by
    rw [lowB]
    split
    · rename_i h1
      exact ⟨by simp [Nat.testBit_zero, h1], fun j hj => by omega⟩
    · rename_i h1
      have ih := lowB_ok f (u / 2) (by omega) (by rw [Nat.pow_succ] at h2; omega)
      refine ⟨by rw [Nat.testBit_succ]; exact ih.1, fun j hj => ?_⟩
      cases j with
      | zero => simp [Nat.testBit_zero]; omega
      | succ j => rw [Nat.testBit_succ]; exact ih.2 j (by omega)
end Go.Id

/-! Digits to the base 2^32, the lowest first: plain numbers. -/
namespace Go.Id

def valT (ds : List Nat) : Nat → Nat
  | 0 => 0
  | k + 1 => valT ds k + ds.getD k 0 * 4294967296 ^ k
def valD (ds : List Nat) : Nat := valT ds ds.length
def Digs (ds : List Nat) : Prop := ∀ d ∈ ds, d < 4294967296
def Norm (ds : List Nat) : Prop := ds = [] ∨ ds.getD (ds.length - 1) 0 ≠ 0

theorem getD_lt {ds : List Nat} (h : Digs ds) (k : Nat) : ds.getD k 0 < 4294967296 := by
  rw [List.getD_eq_getElem?_getD]
  cases hx : ds[k]? with
  | none => simp
  | some x => simpa using h x (List.mem_of_getElem? hx)
theorem getD_of_ge {ds : List Nat} {k : Nat} (h : ds.length ≤ k) : ds.getD k 0 = 0 := by
  rw [List.getD_eq_getElem?_getD, List.getElem?_eq_none h]; rfl
theorem pow_pos' (k : Nat) : 0 < 4294967296 ^ k := Nat.pow_pos (by omega)
theorem valT_lt {ds : List Nat} (h : Digs ds) : ∀ k, valT ds k < 4294967296 ^ k
  | 0 => by simp [valT]
  | k + 1 => by
    have ih := valT_lt h k
    have hd := getD_lt h k
    have h2 : ds.getD k 0 * 4294967296 ^ k ≤ 4294967295 * 4294967296 ^ k := Nat.mul_le_mul_right _ (by omega)
    rw [valT, Nat.pow_succ]
    omega
theorem valT_ge {ds : List Nat} : ∀ {k : Nat}, ds.length ≤ k → valT ds k = valD ds
  | 0, h => by
    have : ds = [] := List.length_eq_zero_iff.1 (by omega)
    subst this; rfl
  | k + 1, h => by
    by_cases hk : ds.length ≤ k
    · rw [valT, valT_ge hk, getD_of_ge hk]; simp
    · have : ds.length = k + 1 := by omega
      rw [valD, this]
theorem valT_congr {ds es : List Nat} : ∀ {k : Nat}, (∀ j, j < k → ds.getD j 0 = es.getD j 0) → valT ds k = valT es k
  | 0, _ => rfl
  | k + 1, h => by rw [valT, valT, valT_congr fun j hj => h j (by omega), h k (by omega)]
theorem valD_lt {ds : List Nat} (h : Digs ds) : valD ds < 4294967296 ^ ds.length := valT_lt h _
theorem getD_append {ds : List Nat} {x : Nat} (j : Nat) : (ds ++ [x]).getD j 0 = if j < ds.length then ds.getD j 0 else if j = ds.length then x else 0 := by
  simp only [List.getD_eq_getElem?_getD]
  by_cases h : j < ds.length
  · rw [if_pos h, List.getElem?_append_left h]
  · rw [if_neg h, List.getElem?_append_right (by omega)]
    by_cases h2 : j = ds.length
    · rw [if_pos h2]; subst h2; simp
    · rw [if_neg h2, List.getElem?_eq_none (by simp; omega)]; rfl
theorem valD_append (ds : List Nat) (x : Nat) : valD (ds ++ [x]) = valD ds + x * 4294967296 ^ ds.length := by
  have h1 : (ds ++ [x]).length = ds.length + 1 := by simp
  rw [valD, h1, valT, getD_append, if_neg (by omega), if_pos rfl]
  congr 1
  refine valT_congr fun j hj => ?_
  rw [getD_append, if_pos hj]
theorem Digs.append {ds : List Nat} {x : Nat} (h : Digs ds) (hx : x < 4294967296) : Digs (ds ++ [x]) := by
  intro d hd
  rcases List.mem_append.1 hd with h1 | h1
  · exact h d h1
  · simp at h1; omega
theorem Digs.take {ds : List Nat} (h : Digs ds) (n : Nat) : Digs (ds.take n) := fun d hd => h d (List.mem_of_mem_take hd)
theorem getD_take (ds : List Nat) (n j : Nat) : (ds.take n).getD j 0 = if j < n then ds.getD j 0 else 0 := by
  simp only [List.getD_eq_getElem?_getD, List.getElem?_take]
  split <;> rfl
theorem valT_split (ds : List Nat) (m : Nat) : ∀ k, (∀ j, m ≤ j → j < m + k → ds.getD j 0 = 0) → valT ds (m + k) = valT ds m
  | 0, _ => rfl
  | k + 1, h => by
    rw [show m + (k + 1) = (m + k) + 1 from rfl, valT, valT_split ds m k (fun j a b => h j a (by omega)), h (m + k) (by omega) (by omega)]
    simp
theorem valD_take {ds : List Nat} {m : Nat} (hm : m ≤ ds.length) (h : ∀ j, m ≤ j → ds.getD j 0 = 0) : valD (ds.take m) = valD ds := by
  have h1 : (ds.take m).length = m := by simp [hm]
  rw [valD, h1]
  have h2 : valT (ds.take m) m = valT ds m := valT_congr fun j hj => by rw [getD_take, if_pos hj]
  rw [h2]
  have := valT_split ds m (ds.length - m) (fun j a _ => h j a)
  rw [show m + (ds.length - m) = ds.length from by omega] at this
  exact this.symm
theorem Norm.ge {ds : List Nat} (h : Norm ds) (hne : ds ≠ []) : 4294967296 ^ (ds.length - 1) ≤ valD ds := by
  rcases h with h | h
  · exact absurd h hne
  · have hl : 0 < ds.length := List.length_pos_iff.2 hne
    obtain ⟨n, hn⟩ : ∃ n, ds.length = n + 1 := ⟨ds.length - 1, by omega⟩
    rw [valD, hn, valT]
    rw [hn] at h
    simp only [Nat.add_sub_cancel] at h ⊢
    have : 1 * 4294967296 ^ n ≤ ds.getD n 0 * 4294967296 ^ n := Nat.mul_le_mul_right _ (by omega)
    omega
theorem lt_of_len {a b : List Nat} (ha : Digs a) (hb : Norm b) (hl : a.length < b.length) : valD a < valD b := by
  have h1 := valD_lt ha
  have h2 := hb.ge (by intro h; subst h; simp at hl)
  have h3 : 4294967296 ^ a.length ≤ 4294967296 ^ (b.length - 1) := Nat.pow_le_pow_right (by omega) (by omega)
  omega
/-- The highest digit that differs decides. -/
theorem valT_top {a b : List Nat} (ha : Digs a) {i : Nat} (hi : a.getD i 0 < b.getD i 0) : ∀ k, (∀ j, i < j → j < i + 1 + k → a.getD j 0 = b.getD j 0) → valT a (i + 1 + k) < valT b (i + 1 + k)
  | 0, _ => by
    have h1 := valT_lt ha i
    have h2 : (a.getD i 0 + 1) * 4294967296 ^ i ≤ b.getD i 0 * 4294967296 ^ i := Nat.mul_le_mul_right _ (by omega)
    rw [Nat.add_mul] at h2
    rw [Nat.add_zero, valT, valT]
    omega
  | k + 1, h => by
    have := valT_top ha hi k (fun j x y => h j x (by omega))
    rw [show i + 1 + (k + 1) = (i + 1 + k) + 1 from rfl, valT, valT, h (i + 1 + k) (by omega) (by omega)]
    omega
theorem lt_of_top {a b : List Nat} (ha : Digs a) (hl : a.length = b.length) {i : Nat} (hn : i < a.length) (hi : a.getD i 0 < b.getD i 0) (h : ∀ j, i < j → j < a.length → a.getD j 0 = b.getD j 0) : valD a < valD b := by
  have := valT_top ha hi (a.length - (i + 1)) (fun j x y => h j x (by omega))
  rw [show i + 1 + (a.length - (i + 1)) = a.length from by omega] at this
  rw [valD, valD, ← hl]; exact this
theorem eq_of_all {a b : List Nat} (hl : a.length = b.length) (h : ∀ j, j < a.length → a.getD j 0 = b.getD j 0) : valD a = valD b := by
  rw [valD, valD, ← hl]; exact valT_congr h
theorem Norm.nil_iff {ds : List Nat} (h : Norm ds) : valD ds = 0 ↔ ds = [] := by
  constructor
  · intro h0
    apply Classical.byContradiction; intro hne
    have := h.ge hne
    have := pow_pos' (ds.length - 1)
    omega
  · rintro rfl; rfl
theorem Norm.len_le {a b : List Nat} (ha : Norm a) (hb : Digs b) (h : valD a ≤ valD b) : a.length ≤ b.length := by
  apply Classical.byContradiction; intro hn
  have := lt_of_len hb ha (by omega)
  omega
/-- The digits of a number. -/
def toD : Nat → Nat → List Nat
  | 0, _ => []
  | f + 1, n => if n = 0 then [] else n % 4294967296 :: toD f (n / 4294967296)
theorem valT_cons (d : Nat) (ds : List Nat) : ∀ k, valT (d :: ds) (k + 1) = d + 4294967296 * valT ds k
  | 0 => by simp [valT]
  | k + 1 => by
    rw [valT, valT_cons d ds k, valT]
    simp only [List.getD_cons_succ, Nat.pow_succ]
    grind
theorem valD_cons (d : Nat) (ds : List Nat) : valD (d :: ds) = d + 4294967296 * valD ds := valT_cons d ds _
/-- Two normal lists of digits of one number are one. -/
theorem norm_unique : ∀ {a b : List Nat}, Digs a → Digs b → Norm a → Norm b → valD a = valD b → a = b := by
  intro a b ha hb na nb h
  have l1 := na.len_le hb (by omega)
  have l2 := nb.len_le ha (by omega)
  have hl : a.length = b.length := by omega
  clear l1 l2 na nb
  induction a generalizing b with
  | nil => exact (List.length_eq_zero_iff.1 hl.symm).symm
  | cons x a ih =>
    cases b with
    | nil => simp at hl
    | cons y b =>
      rw [valD_cons, valD_cons] at h
      have hx : x < 4294967296 := ha x (by simp)
      have hy : y < 4294967296 := hb y (by simp)
      have e1 : x = y := by omega
      have e2 : valD a = valD b := by omega
      rw [e1, ih (b := b) (fun d hd => ha d (by simp [hd])) (fun d hd => hb d (by simp [hd])) e2 (by simpa using hl)]
end Go.Id
