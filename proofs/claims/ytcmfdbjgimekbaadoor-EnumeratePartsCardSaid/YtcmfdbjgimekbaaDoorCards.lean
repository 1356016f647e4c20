/-
  DERIVED. GIVEN WITH THE SEED: THE CARDS: each row of YtcmfdbjgimekbaaDoorRows.lean that lists a variable, with what it lists TIED to the program's text (the seventh form; the later family's looks); each row that meets fmt, with fmt's text TOLD by the authors' own Lean function (tested against real Go, not proved from fmt's source: count such statements apart). THE CARD IS WHAT COUNTS. Prove the row's statement (the work); the ties are given (YtcmfdbjgimekbaaDoorTie.lean); close each card by the builder's one call (the guide's Derived/Test/ToyasCard.lean, 'card_holds'). Laid BY PROGRAM, IN A SANDBOX (cutbox-door.mjs). By AI agents, Wed Nov 11 2026. No macro, syntax, notation, axiom, sorry.
-/
import Derived.Test.YtcmfdbjgimekbaaDoorRows
import GoSem.ClaimSeven
namespace Go.Proofs.YtcmfdbjgimekbaaDoor
namespace Rows

/-- THE TIED CARD OF 'wardmotelaw36.EnumerateAll'. -/
def enumerateAllCard : Claim7 := { stood := { row := enumerateAllRow, standIns := [], harness := (true, "f1aa8008fc7e03d867aea647d31d8d98e431bd63b20ba7b761a8056a23c69bcb"), looks := false }, kinds := [], alts := [], laidByText := true, laidKinds := [.data, .data], laidTests := true, laidLooks := .later }
def EnumerateAllCardSaid : Prop := Claim7.holds Tryd.pinned (.plain (OpenSpec.ofChange enumerateAllSpec)) enumerateAllCard

/-- THE TIED CARD OF 'wardmotelaw36.EnumerateKnown'. -/
def enumerateKnownCard : Claim7 := { stood := { row := enumerateKnownRow, standIns := [], harness := (true, "f1aa8008fc7e03d867aea647d31d8d98e431bd63b20ba7b761a8056a23c69bcb"), looks := false }, kinds := [], alts := [], laidByText := true, laidKinds := [.data, .data], laidTests := true, laidLooks := .later }
def EnumerateKnownCardSaid : Prop := Claim7.holds Tryd.pinned (.plain (OpenSpec.ofChange enumerateKnownSpec)) enumerateKnownCard

/-- THE TIED CARD OF 'wardmotelaw36.EnumerateOrder'. -/
def enumerateOrderCard : Claim7 := { stood := { row := enumerateOrderRow, standIns := [], harness := (true, "f1aa8008fc7e03d867aea647d31d8d98e431bd63b20ba7b761a8056a23c69bcb"), looks := false }, kinds := [], alts := [], laidByText := true, laidKinds := [.data, .data], laidTests := true, laidLooks := .later }
def EnumerateOrderCardSaid : Prop := Claim7.holds Tryd.pinned (.plain (OpenSpec.ofChange enumerateOrderSpec)) enumerateOrderCard

/-- THE TIED CARD OF 'wardmotelaw36.EnumerateParts'. -/
def enumeratePartsCard : Claim7 := { stood := { row := enumeratePartsRow, standIns := [], harness := (true, "f1aa8008fc7e03d867aea647d31d8d98e431bd63b20ba7b761a8056a23c69bcb"), looks := false }, kinds := [], alts := [], laidByText := true, laidKinds := [.data, .data], laidTests := true, laidLooks := .later }
def EnumeratePartsCardSaid : Prop := Claim7.holds Tryd.pinned (.plain (OpenSpec.ofChange enumeratePartsSpec)) enumeratePartsCard

/-- THE TIED CARD OF 'wardmotelaw36.EnumerateSets'. -/
def enumerateSetsCard : Claim7 := { stood := { row := enumerateSetsRow, standIns := [], harness := (true, "f1aa8008fc7e03d867aea647d31d8d98e431bd63b20ba7b761a8056a23c69bcb"), looks := false }, kinds := [], alts := [], laidByText := true, laidKinds := [.data, .data], laidTests := true, laidLooks := .later }
def EnumerateSetsCardSaid : Prop := Claim7.holds Tryd.pinned (.plain (OpenSpec.ofChange enumerateSetsSpec)) enumerateSetsCard

/-- THE TIED CARD OF 'wardmotelaw36.EnumerateCounts'. -/
def enumerateCountsCard : Claim7 := { stood := { row := enumerateCountsRow, standIns := [], harness := (true, "f1aa8008fc7e03d867aea647d31d8d98e431bd63b20ba7b761a8056a23c69bcb"), looks := false }, kinds := [], alts := [], laidByText := true, laidKinds := [.data, .data], laidTests := true, laidLooks := .later }
def EnumerateCountsCardSaid : Prop := Claim7.holds Tryd.pinned (.plain (OpenSpec.ofChange enumerateCountsSpec)) enumerateCountsCard

/-- THE TIED CARD OF 'wardmotelaw36.EnumerateLists'. -/
def enumerateListsCard : Claim7 := { stood := { row := enumerateListsRow, standIns := [], harness := (true, "f1aa8008fc7e03d867aea647d31d8d98e431bd63b20ba7b761a8056a23c69bcb"), looks := false }, kinds := [], alts := [], laidByText := true, laidKinds := [.data, .data], laidTests := true, laidLooks := .later }
def EnumerateListsCardSaid : Prop := Claim7.holds Tryd.pinned (.plain (OpenSpec.ofChange enumerateListsSpec)) enumerateListsCard

/-- THE TIED CARD OF 'wardmotelaw36.EnumerateNumbers'. -/
def enumerateNumbersCard : Claim7 := { stood := { row := enumerateNumbersRow, standIns := [], harness := (true, "f1aa8008fc7e03d867aea647d31d8d98e431bd63b20ba7b761a8056a23c69bcb"), looks := false }, kinds := [], alts := [], laidByText := true, laidKinds := [.data, .data], laidTests := true, laidLooks := .later }
def EnumerateNumbersCardSaid : Prop := Claim7.holds Tryd.pinned (.plain (OpenSpec.ofChange enumerateNumbersSpec)) enumerateNumbersCard

/-- THE SECOND FORM's CARD OF 'wardmotelaw36.EnumerateAll'. -/
def enumerateAllUptoCard : Claim7 := { stood := { row := enumerateAllUptoRow, standIns := [], harness := (true, "f1aa8008fc7e03d867aea647d31d8d98e431bd63b20ba7b761a8056a23c69bcb"), looks := false }, kinds := [], alts := [], laidByText := true, laidKinds := [.data, .data], laidTests := true, laidLooks := .later }
def EnumerateAllUptoCardSaid : Prop := Claim7.holds Tryd.pinned (.plain (OpenSpec.upto enumerateAllSpec)) enumerateAllUptoCard

/-- THE SECOND FORM's CARD OF 'wardmotelaw36.EnumerateKnown'. -/
def enumerateKnownUptoCard : Claim7 := { stood := { row := enumerateKnownUptoRow, standIns := [], harness := (true, "f1aa8008fc7e03d867aea647d31d8d98e431bd63b20ba7b761a8056a23c69bcb"), looks := false }, kinds := [], alts := [], laidByText := true, laidKinds := [.data, .data], laidTests := true, laidLooks := .later }
def EnumerateKnownUptoCardSaid : Prop := Claim7.holds Tryd.pinned (.plain (OpenSpec.upto enumerateKnownSpec)) enumerateKnownUptoCard

/-- THE SECOND FORM's CARD OF 'wardmotelaw36.EnumerateOrder'. -/
def enumerateOrderUptoCard : Claim7 := { stood := { row := enumerateOrderUptoRow, standIns := [], harness := (true, "f1aa8008fc7e03d867aea647d31d8d98e431bd63b20ba7b761a8056a23c69bcb"), looks := false }, kinds := [], alts := [], laidByText := true, laidKinds := [.data, .data], laidTests := true, laidLooks := .later }
def EnumerateOrderUptoCardSaid : Prop := Claim7.holds Tryd.pinned (.plain (OpenSpec.upto enumerateOrderSpec)) enumerateOrderUptoCard

/-- THE SECOND FORM's CARD OF 'wardmotelaw36.EnumerateParts'. -/
def enumeratePartsUptoCard : Claim7 := { stood := { row := enumeratePartsUptoRow, standIns := [], harness := (true, "f1aa8008fc7e03d867aea647d31d8d98e431bd63b20ba7b761a8056a23c69bcb"), looks := false }, kinds := [], alts := [], laidByText := true, laidKinds := [.data, .data], laidTests := true, laidLooks := .later }
def EnumeratePartsUptoCardSaid : Prop := Claim7.holds Tryd.pinned (.plain (OpenSpec.upto enumeratePartsSpec)) enumeratePartsUptoCard

/-- THE SECOND FORM's CARD OF 'wardmotelaw36.EnumerateSets'. -/
def enumerateSetsUptoCard : Claim7 := { stood := { row := enumerateSetsUptoRow, standIns := [], harness := (true, "f1aa8008fc7e03d867aea647d31d8d98e431bd63b20ba7b761a8056a23c69bcb"), looks := false }, kinds := [], alts := [], laidByText := true, laidKinds := [.data, .data], laidTests := true, laidLooks := .later }
def EnumerateSetsUptoCardSaid : Prop := Claim7.holds Tryd.pinned (.plain (OpenSpec.upto enumerateSetsSpec)) enumerateSetsUptoCard

/-- THE SECOND FORM's CARD OF 'wardmotelaw36.EnumerateCounts'. -/
def enumerateCountsUptoCard : Claim7 := { stood := { row := enumerateCountsUptoRow, standIns := [], harness := (true, "f1aa8008fc7e03d867aea647d31d8d98e431bd63b20ba7b761a8056a23c69bcb"), looks := false }, kinds := [], alts := [], laidByText := true, laidKinds := [.data, .data], laidTests := true, laidLooks := .later }
def EnumerateCountsUptoCardSaid : Prop := Claim7.holds Tryd.pinned (.plain (OpenSpec.upto enumerateCountsSpec)) enumerateCountsUptoCard

/-- THE SECOND FORM's CARD OF 'wardmotelaw36.EnumerateLists'. -/
def enumerateListsUptoCard : Claim7 := { stood := { row := enumerateListsUptoRow, standIns := [], harness := (true, "f1aa8008fc7e03d867aea647d31d8d98e431bd63b20ba7b761a8056a23c69bcb"), looks := false }, kinds := [], alts := [], laidByText := true, laidKinds := [.data, .data], laidTests := true, laidLooks := .later }
def EnumerateListsUptoCardSaid : Prop := Claim7.holds Tryd.pinned (.plain (OpenSpec.upto enumerateListsSpec)) enumerateListsUptoCard

/-- THE SECOND FORM's CARD OF 'wardmotelaw36.EnumerateNumbers'. -/
def enumerateNumbersUptoCard : Claim7 := { stood := { row := enumerateNumbersUptoRow, standIns := [], harness := (true, "f1aa8008fc7e03d867aea647d31d8d98e431bd63b20ba7b761a8056a23c69bcb"), looks := false }, kinds := [], alts := [], laidByText := true, laidKinds := [.data, .data], laidTests := true, laidLooks := .later }
def EnumerateNumbersUptoCardSaid : Prop := Claim7.holds Tryd.pinned (.plain (OpenSpec.upto enumerateNumbersSpec)) enumerateNumbersUptoCard
end Rows
end Go.Proofs.YtcmfdbjgimekbaaDoor
