/-
  DERIVED. GIVEN WITH THE SEED: THE CARDS: each row of YtkgllhkhdjodeaaDoorRows.lean that lists a variable, with what it lists TIED to the program's text (the seventh form; the later family's looks); each row that meets fmt, with fmt's text TOLD by the authors' own Lean function (tested against real Go, not proved from fmt's source: count such statements apart). THE CARD IS WHAT COUNTS. Prove the row's statement (the work); the ties are given (YtkgllhkhdjodeaaDoorTie.lean); close each card by the builder's one call (the guide's Derived/Test/ToyasCard.lean, 'card_holds'). Laid BY PROGRAM, IN A SANDBOX (cutbox-door.mjs). By AI agents, Wed Nov 11 2026. No macro, syntax, notation, axiom, sorry.
-/
import Derived.Test.YtkgllhkhdjodeaaDoorRows
import GoSem.ClaimSeven
namespace Go.Proofs.YtkgllhkhdjodeaaDoor
namespace Rows

/-- THE TIED CARD OF 'motleylaw02.FormulaWrites'. -/
def formulaWritesCard : Claim7 := { stood := { row := formulaWritesRow, standIns := [], harness := (true, "fb82a7215d465fb6c6cebbf5900519ff9231e12991c7f2c6b98b91227cb3e8f7"), looks := true }, kinds := [], alts := [], laidByText := true, laidKinds := [.data, .data, .data], laidTests := true, laidLooks := .later }
def FormulaWritesCardSaid : Prop := Claim7.holds Tryd.pinned (.plain (OpenSpec.ofChange formulaWritesSpec)) formulaWritesCard

/-- THE SECOND FORM's CARD OF 'motleylaw02.FormulaWrites'. -/
def formulaWritesUptoCard : Claim7 := { stood := { row := formulaWritesUptoRow, standIns := [], harness := (true, "fb82a7215d465fb6c6cebbf5900519ff9231e12991c7f2c6b98b91227cb3e8f7"), looks := true }, kinds := [], alts := [], laidByText := true, laidKinds := [.data, .data, .data], laidTests := true, laidLooks := .later }
def FormulaWritesUptoCardSaid : Prop := Claim7.holds Tryd.pinned (.plain (OpenSpec.upto formulaWritesSpec)) formulaWritesUptoCard
end Rows
end Go.Proofs.YtkgllhkhdjodeaaDoor
