/-
  DERIVED. GIVEN WITH THE SEED: THE CARDS: each row of YtedbajbgnmaakaaGreatDoorRows.lean that lists a variable, with what it lists TIED to the program's text (the seventh form; the later family's looks); each row that meets fmt, with fmt's text TOLD by the authors' own Lean function (tested against real Go, not proved from fmt's source: count such statements apart). THE CARD IS WHAT COUNTS. Prove the row's statement (the work); the ties are given (YtedbajbgnmaakaaGreatDoorTie.lean); close each card by the builder's one call (the guide's Derived/Test/ToyasCard.lean, 'card_holds'). Laid BY PROGRAM, IN A SANDBOX (cutbox-door.mjs). By AI agents, Wed Nov 11 2026. No macro, syntax, notation, axiom, sorry.
-/
import Derived.Test.YtedbajbgnmaakaaGreatDoorRows
import GoSem.ClaimSeven
namespace Go.Proofs.YtedbajbgnmaakaaGreatDoor
namespace Rows

/-- THE TIED CARD OF 'motleylaw06.SourceLists'. -/
def sourceListsCard : Claim7 := { stood := { row := sourceListsRow, standIns := [], harness := (true, "5c408d01856005e0ead388d535194a7445dad9ba248942633f6cf848cb2f0ffb"), looks := true }, kinds := [], alts := [], laidByText := true, laidKinds := [.data, .data, .data, .data, .sentinel, .sentinel, .data, .pinned], laidTests := true, laidLooks := .later }
def SourceListsCardSaid : Prop := Claim7.holds Tryz.pinned (.plain (OpenSpec.ofChange sourceListsSpec)) sourceListsCard

/-- THE TIED CARD OF 'motleylaw06.SourceProducts'. -/
def sourceProductsCard : Claim7 := { stood := { row := sourceProductsRow, standIns := [], harness := (true, "5c408d01856005e0ead388d535194a7445dad9ba248942633f6cf848cb2f0ffb"), looks := true }, kinds := [], alts := [], laidByText := true, laidKinds := [.data, .data, .data, .data, .sentinel, .sentinel, .data, .pinned], laidTests := true, laidLooks := .later }
def SourceProductsCardSaid : Prop := Claim7.holds Tryz.pinned (.plain (OpenSpec.ofChange sourceProductsSpec)) sourceProductsCard

/-- THE SECOND FORM's CARD OF 'motleylaw06.SourceLists'. -/
def sourceListsUptoCard : Claim7 := { stood := { row := sourceListsUptoRow, standIns := [], harness := (true, "5c408d01856005e0ead388d535194a7445dad9ba248942633f6cf848cb2f0ffb"), looks := true }, kinds := [], alts := [], laidByText := true, laidKinds := [.data, .data, .data, .data, .sentinel, .sentinel, .data, .pinned], laidTests := true, laidLooks := .later }
def SourceListsUptoCardSaid : Prop := Claim7.holds Tryz.pinned (.plain (OpenSpec.upto sourceListsSpec)) sourceListsUptoCard

/-- THE SECOND FORM's CARD OF 'motleylaw06.SourceProducts'. -/
def sourceProductsUptoCard : Claim7 := { stood := { row := sourceProductsUptoRow, standIns := [], harness := (true, "5c408d01856005e0ead388d535194a7445dad9ba248942633f6cf848cb2f0ffb"), looks := true }, kinds := [], alts := [], laidByText := true, laidKinds := [.data, .data, .data, .data, .sentinel, .sentinel, .data, .pinned], laidTests := true, laidLooks := .later }
def SourceProductsUptoCardSaid : Prop := Claim7.holds Tryz.pinned (.plain (OpenSpec.upto sourceProductsSpec)) sourceProductsUptoCard
end Rows
end Go.Proofs.YtedbajbgnmaakaaGreatDoor
