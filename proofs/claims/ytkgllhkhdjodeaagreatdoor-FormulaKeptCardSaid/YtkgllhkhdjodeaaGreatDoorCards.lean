/-
  DERIVED. GIVEN WITH THE SEED: THE CARDS: each row of YtkgllhkhdjodeaaGreatDoorRows.lean that lists a variable, with what it lists TIED to the program's text (the seventh form; the later family's looks); each row that meets fmt, with fmt's text TOLD by the authors' own Lean function (tested against real Go, not proved from fmt's source: count such statements apart). THE CARD IS WHAT COUNTS. Prove the row's statement (the work); the ties are given (YtkgllhkhdjodeaaGreatDoorTie.lean); close each card by the builder's one call (the guide's Derived/Test/ToyasCard.lean, 'card_holds'). Laid BY PROGRAM, IN A SANDBOX (cutbox-door.mjs). By AI agents, Wed Nov 11 2026. No macro, syntax, notation, axiom, sorry.
-/
import Derived.Test.YtkgllhkhdjodeaaGreatDoorRows
import GoSem.ClaimSeven
namespace Go.Proofs.YtkgllhkhdjodeaaGreatDoor
namespace Rows

/-- THE TIED CARD OF 'motleylaw02.FormulaReads'. -/
def formulaReadsCard : Claim7 := { stood := { row := formulaReadsRow, standIns := [], harness := (true, "5457953ecd705002b7009528a9b906db623c92c6486244c8c4031e1e2adb20c9"), looks := true }, kinds := [], alts := [], laidByText := true, laidKinds := [.data, .data, .data, .data, .sentinel, .sentinel, .pinned], laidTests := true, laidLooks := .later }
def FormulaReadsCardSaid : Prop := Claim7.holds Tryz.pinned (.plain (OpenSpec.ofChange formulaReadsSpec)) formulaReadsCard

/-- THE TIED CARD OF 'motleylaw02.FormulaKept'. -/
def formulaKeptCard : Claim7 := { stood := { row := formulaKeptRow, standIns := [], harness := (true, "5457953ecd705002b7009528a9b906db623c92c6486244c8c4031e1e2adb20c9"), looks := true }, kinds := [], alts := [], laidByText := true, laidKinds := [.data, .data, .data, .data, .sentinel, .sentinel, .pinned], laidTests := true, laidLooks := .later }
def FormulaKeptCardSaid : Prop := Claim7.holds Tryz.pinned (.plain (OpenSpec.ofChange formulaKeptSpec)) formulaKeptCard

/-- THE SECOND FORM's CARD OF 'motleylaw02.FormulaReads'. -/
def formulaReadsUptoCard : Claim7 := { stood := { row := formulaReadsUptoRow, standIns := [], harness := (true, "5457953ecd705002b7009528a9b906db623c92c6486244c8c4031e1e2adb20c9"), looks := true }, kinds := [], alts := [], laidByText := true, laidKinds := [.data, .data, .data, .data, .sentinel, .sentinel, .pinned], laidTests := true, laidLooks := .later }
def FormulaReadsUptoCardSaid : Prop := Claim7.holds Tryz.pinned (.plain (OpenSpec.upto formulaReadsSpec)) formulaReadsUptoCard

/-- THE SECOND FORM's CARD OF 'motleylaw02.FormulaKept'. -/
def formulaKeptUptoCard : Claim7 := { stood := { row := formulaKeptUptoRow, standIns := [], harness := (true, "5457953ecd705002b7009528a9b906db623c92c6486244c8c4031e1e2adb20c9"), looks := true }, kinds := [], alts := [], laidByText := true, laidKinds := [.data, .data, .data, .data, .sentinel, .sentinel, .pinned], laidTests := true, laidLooks := .later }
def FormulaKeptUptoCardSaid : Prop := Claim7.holds Tryz.pinned (.plain (OpenSpec.upto formulaKeptSpec)) formulaKeptUptoCard
end Rows
end Go.Proofs.YtkgllhkhdjodeaaGreatDoor
