/-
  DERIVED. GIVEN WITH THE SEED: THE CARDS: each row of YtndpdhamadiopaaGreatDoorRows.lean that lists a variable, with what it lists TIED to the program's text (the seventh form; the later family's looks); each row that meets fmt, with fmt's text TOLD by the authors' own Lean function (tested against real Go, not proved from fmt's source: count such statements apart). THE CARD IS WHAT COUNTS. Prove the row's statement (the work); the ties are given (YtndpdhamadiopaaGreatDoorTie.lean); close each card by the builder's one call (the guide's Derived/Test/ToyasCard.lean, 'card_holds'). Laid BY PROGRAM, IN A SANDBOX (cutbox-door.mjs). By AI agents, Wed Nov 11 2026. No macro, syntax, notation, axiom, sorry.
-/
import Derived.Test.YtndpdhamadiopaaGreatDoorRows
import GoSem.ClaimSeven
namespace Go.Proofs.YtndpdhamadiopaaGreatDoor
namespace Rows

/-- THE TIED CARD OF 'motleylaw06.SourceLists'. -/
def sourceListsCard : Claim7 := { stood := { row := sourceListsRow, standIns := [], harness := (true, "d803fd93bc35ee02c47a2218dd839ab097186ea58448a0bf4a40f06bb1ac8d42"), looks := true }, kinds := [], alts := [], laidByText := true, laidKinds := [.data, .data, .data, .data, .sentinel, .sentinel, .data, .pinned], laidTests := true, laidLooks := .later }
def SourceListsCardSaid : Prop := Claim7.holds Tryz.pinned (.plain (OpenSpec.ofChange sourceListsSpec)) sourceListsCard

/-- THE TIED CARD OF 'motleylaw06.SourceDiffers'. -/
def sourceDiffersCard : Claim7 := { stood := { row := sourceDiffersRow, standIns := [], harness := (true, "d803fd93bc35ee02c47a2218dd839ab097186ea58448a0bf4a40f06bb1ac8d42"), looks := true }, kinds := [], alts := [], laidByText := true, laidKinds := [.data, .data, .data, .data, .sentinel, .sentinel, .data, .pinned], laidTests := true, laidLooks := .later }
def SourceDiffersCardSaid : Prop := Claim7.holds Tryz.pinned (.plain (OpenSpec.ofChange sourceDiffersSpec)) sourceDiffersCard

/-- THE TIED CARD OF 'motleylaw06.SourceTells'. -/
def sourceTellsCard : Claim7 := { stood := { row := sourceTellsRow, standIns := [], harness := (true, "d803fd93bc35ee02c47a2218dd839ab097186ea58448a0bf4a40f06bb1ac8d42"), looks := true }, kinds := [], alts := [], laidByText := true, laidKinds := [.data, .data, .data, .data, .sentinel, .sentinel, .data, .pinned], laidTests := true, laidLooks := .later }
def SourceTellsCardSaid : Prop := Claim7.holds Tryz.pinned (.plain (OpenSpec.ofChange sourceTellsSpec)) sourceTellsCard

/-- THE TIED CARD OF 'motleylaw06.SourceProducts'. -/
def sourceProductsCard : Claim7 := { stood := { row := sourceProductsRow, standIns := [], harness := (true, "d803fd93bc35ee02c47a2218dd839ab097186ea58448a0bf4a40f06bb1ac8d42"), looks := true }, kinds := [], alts := [], laidByText := true, laidKinds := [.data, .data, .data, .data, .sentinel, .sentinel, .data, .pinned], laidTests := true, laidLooks := .later }
def SourceProductsCardSaid : Prop := Claim7.holds Tryz.pinned (.plain (OpenSpec.ofChange sourceProductsSpec)) sourceProductsCard

/-- THE SECOND FORM's CARD OF 'motleylaw06.SourceLists'. -/
def sourceListsUptoCard : Claim7 := { stood := { row := sourceListsUptoRow, standIns := [], harness := (true, "d803fd93bc35ee02c47a2218dd839ab097186ea58448a0bf4a40f06bb1ac8d42"), looks := true }, kinds := [], alts := [], laidByText := true, laidKinds := [.data, .data, .data, .data, .sentinel, .sentinel, .data, .pinned], laidTests := true, laidLooks := .later }
def SourceListsUptoCardSaid : Prop := Claim7.holds Tryz.pinned (.plain (OpenSpec.upto sourceListsSpec)) sourceListsUptoCard

/-- THE SECOND FORM's CARD OF 'motleylaw06.SourceDiffers'. -/
def sourceDiffersUptoCard : Claim7 := { stood := { row := sourceDiffersUptoRow, standIns := [], harness := (true, "d803fd93bc35ee02c47a2218dd839ab097186ea58448a0bf4a40f06bb1ac8d42"), looks := true }, kinds := [], alts := [], laidByText := true, laidKinds := [.data, .data, .data, .data, .sentinel, .sentinel, .data, .pinned], laidTests := true, laidLooks := .later }
def SourceDiffersUptoCardSaid : Prop := Claim7.holds Tryz.pinned (.plain (OpenSpec.upto sourceDiffersSpec)) sourceDiffersUptoCard

/-- THE SECOND FORM's CARD OF 'motleylaw06.SourceTells'. -/
def sourceTellsUptoCard : Claim7 := { stood := { row := sourceTellsUptoRow, standIns := [], harness := (true, "d803fd93bc35ee02c47a2218dd839ab097186ea58448a0bf4a40f06bb1ac8d42"), looks := true }, kinds := [], alts := [], laidByText := true, laidKinds := [.data, .data, .data, .data, .sentinel, .sentinel, .data, .pinned], laidTests := true, laidLooks := .later }
def SourceTellsUptoCardSaid : Prop := Claim7.holds Tryz.pinned (.plain (OpenSpec.upto sourceTellsSpec)) sourceTellsUptoCard

/-- THE SECOND FORM's CARD OF 'motleylaw06.SourceProducts'. -/
def sourceProductsUptoCard : Claim7 := { stood := { row := sourceProductsUptoRow, standIns := [], harness := (true, "d803fd93bc35ee02c47a2218dd839ab097186ea58448a0bf4a40f06bb1ac8d42"), looks := true }, kinds := [], alts := [], laidByText := true, laidKinds := [.data, .data, .data, .data, .sentinel, .sentinel, .data, .pinned], laidTests := true, laidLooks := .later }
def SourceProductsUptoCardSaid : Prop := Claim7.holds Tryz.pinned (.plain (OpenSpec.upto sourceProductsSpec)) sourceProductsUptoCard
end Rows
end Go.Proofs.YtndpdhamadiopaaGreatDoor
