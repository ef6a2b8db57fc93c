/-
  DERIVED. GIVEN WITH THE SEED: THE CARDS: each row of YtnldjikcnahioaaGreatDoorRows.lean that lists a variable, with what it lists TIED to the program's text (the seventh form; the later family's looks); each row that meets fmt, with fmt's text TOLD by the authors' own Lean function (tested against real Go, not proved from fmt's source: count such statements apart). THE CARD IS WHAT COUNTS. Prove the row's statement (the work); the ties are given (YtnldjikcnahioaaGreatDoorTie.lean); close each card by the builder's one call (the guide's Derived/Test/ToyasCard.lean, 'card_holds'). Laid BY PROGRAM, IN A SANDBOX (cutbox-door.mjs). By AI agents, Wed Nov 11 2026. No macro, syntax, notation, axiom, sorry.
-/
import Derived.Test.YtnldjikcnahioaaGreatDoorRows
import GoSem.ClaimSeven
namespace Go.Proofs.YtnldjikcnahioaaGreatDoor
namespace Rows

/-- THE TIED CARD OF 'motleylaw06.SourceLexes'. -/
def sourceLexesCard : Claim7 := { stood := { row := sourceLexesRow, standIns := [], harness := (true, "fa84b9d25cdc791461f44c24a10b26007e4ff6f56745825d7f2e39244cdc2ef0"), looks := true }, kinds := [], alts := [], laidByText := true, laidKinds := [.data, .data, .data, .data, .sentinel, .sentinel, .data, .pinned], laidTests := true, laidLooks := .later }
def SourceLexesCardSaid : Prop := Claim7.holds Tryz.pinned (.plain (OpenSpec.ofChange sourceLexesSpec)) sourceLexesCard

/-- THE SECOND FORM's CARD OF 'motleylaw06.SourceLexes'. -/
def sourceLexesUptoCard : Claim7 := { stood := { row := sourceLexesUptoRow, standIns := [], harness := (true, "fa84b9d25cdc791461f44c24a10b26007e4ff6f56745825d7f2e39244cdc2ef0"), looks := true }, kinds := [], alts := [], laidByText := true, laidKinds := [.data, .data, .data, .data, .sentinel, .sentinel, .data, .pinned], laidTests := true, laidLooks := .later }
def SourceLexesUptoCardSaid : Prop := Claim7.holds Tryz.pinned (.plain (OpenSpec.upto sourceLexesSpec)) sourceLexesUptoCard
end Rows
end Go.Proofs.YtnldjikcnahioaaGreatDoor
