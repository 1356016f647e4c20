/-
  DERIVED. GIVEN WITH THE SEED: THE CARDS: each row of YtipnghefdfnlnaaDoorRows.lean that lists a variable, with what it lists TIED to the program's text (the seventh form; the later family's looks); each row that meets fmt, with fmt's text TOLD by the authors' own Lean function (tested against real Go, not proved from fmt's source: count such statements apart). THE CARD IS WHAT COUNTS. Prove the row's statement (the work); the ties are given (YtipnghefdfnlnaaDoorTie.lean); close each card by the builder's one call (the guide's Derived/Test/ToyasCard.lean, 'card_holds'). Laid BY PROGRAM, IN A SANDBOX (cutbox-door.mjs). By AI agents, Wed Nov 11 2026. No macro, syntax, notation, axiom, sorry.
-/
import Derived.Test.YtipnghefdfnlnaaDoorRows
import GoSem.ClaimSeven
namespace Go.Proofs.YtipnghefdfnlnaaDoor
namespace Rows

/-- THE TIED CARD OF 'wardmotelaw36.EnumerateAll'. -/
def enumerateAllCard : Claim7 := { stood := { row := enumerateAllRow, standIns := [], harness := (true, "b80a82165a2d264761c7db3c16b4c062e137e60f9a7b5a706201c7c056ff15aa"), looks := false }, kinds := [], alts := [], laidByText := true, laidKinds := [.data, .data], laidTests := true, laidLooks := .later }
def EnumerateAllCardSaid : Prop := Claim7.holds Tryd.pinned (.plain (OpenSpec.ofChange enumerateAllSpec)) enumerateAllCard

/-- THE TIED CARD OF 'wardmotelaw36.EnumerateOrder'. -/
def enumerateOrderCard : Claim7 := { stood := { row := enumerateOrderRow, standIns := [], harness := (true, "b80a82165a2d264761c7db3c16b4c062e137e60f9a7b5a706201c7c056ff15aa"), looks := false }, kinds := [], alts := [], laidByText := true, laidKinds := [.data, .data], laidTests := true, laidLooks := .later }
def EnumerateOrderCardSaid : Prop := Claim7.holds Tryd.pinned (.plain (OpenSpec.ofChange enumerateOrderSpec)) enumerateOrderCard

/-- THE TIED CARD OF 'wardmotelaw36.EnumerateCounts'. -/
def enumerateCountsCard : Claim7 := { stood := { row := enumerateCountsRow, standIns := [], harness := (true, "b80a82165a2d264761c7db3c16b4c062e137e60f9a7b5a706201c7c056ff15aa"), looks := false }, kinds := [], alts := [], laidByText := true, laidKinds := [.data, .data], laidTests := true, laidLooks := .later }
def EnumerateCountsCardSaid : Prop := Claim7.holds Tryd.pinned (.plain (OpenSpec.ofChange enumerateCountsSpec)) enumerateCountsCard

/-- THE TIED CARD OF 'wardmotelaw36.EnumerateLists'. -/
def enumerateListsCard : Claim7 := { stood := { row := enumerateListsRow, standIns := [], harness := (true, "b80a82165a2d264761c7db3c16b4c062e137e60f9a7b5a706201c7c056ff15aa"), looks := false }, kinds := [], alts := [], laidByText := true, laidKinds := [.data, .data], laidTests := true, laidLooks := .later }
def EnumerateListsCardSaid : Prop := Claim7.holds Tryd.pinned (.plain (OpenSpec.ofChange enumerateListsSpec)) enumerateListsCard

/-- THE TIED CARD OF 'wardmotelaw36.EnumerateNumbers'. -/
def enumerateNumbersCard : Claim7 := { stood := { row := enumerateNumbersRow, standIns := [], harness := (true, "b80a82165a2d264761c7db3c16b4c062e137e60f9a7b5a706201c7c056ff15aa"), looks := false }, kinds := [], alts := [], laidByText := true, laidKinds := [.data, .data], laidTests := true, laidLooks := .later }
def EnumerateNumbersCardSaid : Prop := Claim7.holds Tryd.pinned (.plain (OpenSpec.ofChange enumerateNumbersSpec)) enumerateNumbersCard

/-- THE SECOND FORM's CARD OF 'wardmotelaw36.EnumerateAll'. -/
def enumerateAllUptoCard : Claim7 := { stood := { row := enumerateAllUptoRow, standIns := [], harness := (true, "b80a82165a2d264761c7db3c16b4c062e137e60f9a7b5a706201c7c056ff15aa"), looks := false }, kinds := [], alts := [], laidByText := true, laidKinds := [.data, .data], laidTests := true, laidLooks := .later }
def EnumerateAllUptoCardSaid : Prop := Claim7.holds Tryd.pinned (.plain (OpenSpec.upto enumerateAllSpec)) enumerateAllUptoCard

/-- THE SECOND FORM's CARD OF 'wardmotelaw36.EnumerateOrder'. -/
def enumerateOrderUptoCard : Claim7 := { stood := { row := enumerateOrderUptoRow, standIns := [], harness := (true, "b80a82165a2d264761c7db3c16b4c062e137e60f9a7b5a706201c7c056ff15aa"), looks := false }, kinds := [], alts := [], laidByText := true, laidKinds := [.data, .data], laidTests := true, laidLooks := .later }
def EnumerateOrderUptoCardSaid : Prop := Claim7.holds Tryd.pinned (.plain (OpenSpec.upto enumerateOrderSpec)) enumerateOrderUptoCard

/-- THE SECOND FORM's CARD OF 'wardmotelaw36.EnumerateCounts'. -/
def enumerateCountsUptoCard : Claim7 := { stood := { row := enumerateCountsUptoRow, standIns := [], harness := (true, "b80a82165a2d264761c7db3c16b4c062e137e60f9a7b5a706201c7c056ff15aa"), looks := false }, kinds := [], alts := [], laidByText := true, laidKinds := [.data, .data], laidTests := true, laidLooks := .later }
def EnumerateCountsUptoCardSaid : Prop := Claim7.holds Tryd.pinned (.plain (OpenSpec.upto enumerateCountsSpec)) enumerateCountsUptoCard

/-- THE SECOND FORM's CARD OF 'wardmotelaw36.EnumerateLists'. -/
def enumerateListsUptoCard : Claim7 := { stood := { row := enumerateListsUptoRow, standIns := [], harness := (true, "b80a82165a2d264761c7db3c16b4c062e137e60f9a7b5a706201c7c056ff15aa"), looks := false }, kinds := [], alts := [], laidByText := true, laidKinds := [.data, .data], laidTests := true, laidLooks := .later }
def EnumerateListsUptoCardSaid : Prop := Claim7.holds Tryd.pinned (.plain (OpenSpec.upto enumerateListsSpec)) enumerateListsUptoCard

/-- THE SECOND FORM's CARD OF 'wardmotelaw36.EnumerateNumbers'. -/
def enumerateNumbersUptoCard : Claim7 := { stood := { row := enumerateNumbersUptoRow, standIns := [], harness := (true, "b80a82165a2d264761c7db3c16b4c062e137e60f9a7b5a706201c7c056ff15aa"), looks := false }, kinds := [], alts := [], laidByText := true, laidKinds := [.data, .data], laidTests := true, laidLooks := .later }
def EnumerateNumbersUptoCardSaid : Prop := Claim7.holds Tryd.pinned (.plain (OpenSpec.upto enumerateNumbersSpec)) enumerateNumbersUptoCard
end Rows
end Go.Proofs.YtipnghefdfnlnaaDoor
