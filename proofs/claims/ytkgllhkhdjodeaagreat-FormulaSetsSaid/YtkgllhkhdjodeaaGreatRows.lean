/-
  NARROWER THAN 'FOR EVERY INPUT', by the rows' own cells (each row's printed sentence says how): FormulaEvals: loops.
  DERIVED. THE GIVEN ROWS OF THIS SEAT. 5 by the template 'for every input the law returns true; each argument reads behind the call as it read before'; 0 by the template 'total and deterministic' (their statements: YtkgllhkhdjodeaaGreatTotals.lean).
  GIVEN WITH THE SEED: the statements are not yours to turn. If you find one false, say at which input.
  Laid BY PROGRAM, IN A SANDBOX (cutbox-rows.mjs): the forced cells as the released guide's own fill.sh prints them over the translation 6c08741cef012d17… (all of the seat's roots in one cut). By AI agents, Wed Nov 11 2026. No macro, syntax, notation, axiom, sorry.
-/
import Derived.Test.YtkgllhkhdjodeaaGreatChecked
import GoSem.Claim
import GoSem.ClaimJoined
import GoSem.ClaimMapViews
import Derived.JoinedTies
import Derived.KernelRfl
namespace Go.Proofs.YtkgllhkhdjodeaaGreat
/- THE CELL 'sum', in the pinned program and in every row, IS THE sha256 OF THE DUMP (.gsa) THAT YtkgllhkhdjodeaaGreatProg.lean LOADS. Nothing in Lean hashes anything: it is a label: what it is worth is what the hold of that sum in a sandbox is worth. -/
noncomputable def Tryz.pinned : Pinned := { name := "ytkgllhkhdjodeaagreat", sum := "6c08741cef012d17b6fd7d04766492eaae8e7a231db7fcbb2b0dac04b76c8dac", checked := Tryz.checked }
namespace Rows
def none {H : Type} : Left H := { results := [], args := [] }

/-- 'motleylaw02.FormulaEvals': WHATEVER THE INPUT: true; the input reads as it did. -/
def formulaEvalsSpec : ChangeSpec := { name := "formulaEvals", fn := fun _ => fun
  | [d1, d2, d3] => { results := [.lit (.bool true)], args := [d1, d2, d3] }
  | _ => none }
def formulaEvalsRow : OpenClaim := { program := "ytkgllhkhdjodeaagreat", sum := "6c08741cef012d17b6fd7d04766492eaae8e7a231db7fcbb2b0dac04b76c8dac", func := "motley/motleylaw02.FormulaEvals", spec := "formulaEvals", inPlace := ["internal/abi.NoEscape"], unfollowed := true, recurses := true, loops := true, plainKeys := false, apart := false }
def FormulaEvalsSaid : Prop := formulaEvalsRow.holds Tryz.pinned (OpenSpec.ofChange formulaEvalsSpec)

/-- ITS FALSE NEIGHBOUR: 'it returns false'. Refute it at one input. -/
def formulaEvalsWrong : ChangeSpec := { name := "formulaEvals", fn := fun _ => fun
  | [d1, d2, d3] => { results := [.lit (.bool false)], args := [d1, d2, d3] }
  | _ => none }
def FormulaEvalsWrongFalsely : Prop := formulaEvalsRow.holds Tryz.pinned (OpenSpec.ofChange formulaEvalsWrong)

/-- 'motleylaw02.FormulaClauses': WHATEVER THE INPUT: true; the input reads as it did. -/
def formulaClausesSpec : ChangeSpec := { name := "formulaClauses", fn := fun _ => fun
  | [d] => { results := [.lit (.bool true)], args := [d] }
  | _ => none }
def formulaClausesRow : OpenClaim := { program := "ytkgllhkhdjodeaagreat", sum := "6c08741cef012d17b6fd7d04766492eaae8e7a231db7fcbb2b0dac04b76c8dac", func := "motley/motleylaw02.FormulaClauses", spec := "formulaClauses", inPlace := ["internal/abi.NoEscape"], unfollowed := true, recurses := true, plainKeys := false, apart := false }
def FormulaClausesSaid : Prop := formulaClausesRow.holds Tryz.pinned (OpenSpec.ofChange formulaClausesSpec)

/-- ITS FALSE NEIGHBOUR: 'it returns false'. Refute it at one input. -/
def formulaClausesWrong : ChangeSpec := { name := "formulaClauses", fn := fun _ => fun
  | [d] => { results := [.lit (.bool false)], args := [d] }
  | _ => none }
def FormulaClausesWrongFalsely : Prop := formulaClausesRow.holds Tryz.pinned (OpenSpec.ofChange formulaClausesWrong)

/-- 'motleylaw02.FormulaOf': WHATEVER THE INPUT: true; the input reads as it did. -/
def formulaOfSpec : ChangeSpec := { name := "formulaOf", fn := fun _ => fun
  | [d1, d2] => { results := [.lit (.bool true)], args := [d1, d2] }
  | _ => none }
def formulaOfRow : OpenClaim := { program := "ytkgllhkhdjodeaagreat", sum := "6c08741cef012d17b6fd7d04766492eaae8e7a231db7fcbb2b0dac04b76c8dac", func := "motley/motleylaw02.FormulaOf", spec := "formulaOf", inPlace := ["internal/abi.NoEscape"], unfollowed := true, recurses := true, plainKeys := false, apart := false }
def FormulaOfSaid : Prop := formulaOfRow.holds Tryz.pinned (OpenSpec.ofChange formulaOfSpec)

/-- ITS FALSE NEIGHBOUR: 'it returns false'. Refute it at one input. -/
def formulaOfWrong : ChangeSpec := { name := "formulaOf", fn := fun _ => fun
  | [d1, d2] => { results := [.lit (.bool false)], args := [d1, d2] }
  | _ => none }
def FormulaOfWrongFalsely : Prop := formulaOfRow.holds Tryz.pinned (OpenSpec.ofChange formulaOfWrong)

/-- 'motleylaw02.FormulaSets': WHATEVER THE INPUT: true; the input reads as it did. -/
def formulaSetsSpec : ChangeSpec := { name := "formulaSets", fn := fun _ => fun
  | [d] => { results := [.lit (.bool true)], args := [d] }
  | _ => none }
def formulaSetsRow : OpenClaim := { program := "ytkgllhkhdjodeaagreat", sum := "6c08741cef012d17b6fd7d04766492eaae8e7a231db7fcbb2b0dac04b76c8dac", func := "motley/motleylaw02.FormulaSets", spec := "formulaSets", inPlace := ["internal/abi.NoEscape"], unfollowed := true, recurses := true, plainKeys := false, apart := false }
def FormulaSetsSaid : Prop := formulaSetsRow.holds Tryz.pinned (OpenSpec.ofChange formulaSetsSpec)

/-- ITS FALSE NEIGHBOUR: 'it returns false'. Refute it at one input. -/
def formulaSetsWrong : ChangeSpec := { name := "formulaSets", fn := fun _ => fun
  | [d] => { results := [.lit (.bool false)], args := [d] }
  | _ => none }
def FormulaSetsWrongFalsely : Prop := formulaSetsRow.holds Tryz.pinned (OpenSpec.ofChange formulaSetsWrong)

/-- 'motleylaw02.FormulaRound': WHATEVER THE INPUT: true; the input reads as it did. -/
def formulaRoundSpec : ChangeSpec := { name := "formulaRound", fn := fun _ => fun
  | [d1, d2] => { results := [.lit (.bool true)], args := [d1, d2] }
  | _ => none }
def formulaRoundRow : OpenClaim := { program := "ytkgllhkhdjodeaagreat", sum := "6c08741cef012d17b6fd7d04766492eaae8e7a231db7fcbb2b0dac04b76c8dac", func := "motley/motleylaw02.FormulaRound", spec := "formulaRound", inPlace := ["internal/abi.NoEscape"], unfollowed := true, recurses := true, plainKeys := false, apart := false }
def FormulaRoundSaid : Prop := formulaRoundRow.holds Tryz.pinned (OpenSpec.ofChange formulaRoundSpec)

/-- ITS FALSE NEIGHBOUR: 'it returns false'. Refute it at one input. -/
def formulaRoundWrong : ChangeSpec := { name := "formulaRound", fn := fun _ => fun
  | [d1, d2] => { results := [.lit (.bool false)], args := [d1, d2] }
  | _ => none }
def FormulaRoundWrongFalsely : Prop := formulaRoundRow.holds Tryz.pinned (OpenSpec.ofChange formulaRoundWrong)

/- THE SECOND FORM. 'bulk': how many values and letters a reading holds, each counted each time it is reached (what is shared counts as often as it is met; a slice's spare places count too). A statement '..UptoSaid' is the law's where the arguments, and the package variables that the reading takes, are together of bulk at most 1048576: NARROWER than '..Said'. Prove '..Said' where nothing that the law and all that it calls make is longer than what came in: it says more and counts as full. Else prove '..UptoSaid'. A law counts once. -/
mutual
def uptoBulk {H : Type} : DataW H → Nat
  | .lit (.string bytes) => bytes.length + 1
  | .lit _ => 1
  | .nil => 1
  | .ptr d => uptoBulk d + 1
  | .slice elems spare => uptoBulkAll elems + uptoBulkAll spare + 1
  | .agg parts => uptoBulkAll parts + 1
  | .iface _ d => uptoBulk d + 1
  | .map entries => uptoBulkEntries entries + 1
  | .held _ => 1
def uptoBulkAll {H : Type} : List (DataW H) → Nat
  | [] => 0
  | d :: r => uptoBulk d + uptoBulkAll r
def uptoBulkEntries {H : Type} : List (Lit × DataW H) → Nat
  | [] => 0
  | x :: r => uptoBulkEntry x + uptoBulkEntries r
def uptoBulkEntry {H : Type} : Lit × DataW H → Nat
  | (.string bytes, d) => bytes.length + uptoBulk d + 1
  | (_, d) => uptoBulk d + 1
 end
def uptoSmall : (H : Type) → List (DataW H) → Bool := fun _ ds => decide (uptoBulkAll ds ≤ 1048576)
def OpenSpec.upto (s : _root_.Go.ChangeSpec) : _root_.Go.OpenSpec := { _root_.Go.OpenSpec.ofChange s with cond := some uptoSmall }

/-- 'motleylaw02.FormulaEvals', WHERE WHAT IT READS IS OF BULK AT MOST 1048576: true; the input reads as it did. -/
def formulaEvalsUptoRow : OpenClaim := { program := "ytkgllhkhdjodeaagreat", sum := "6c08741cef012d17b6fd7d04766492eaae8e7a231db7fcbb2b0dac04b76c8dac", func := "motley/motleylaw02.FormulaEvals", spec := "formulaEvals", inPlace := ["internal/abi.NoEscape"], unfollowed := true, recurses := true, loops := true, plainKeys := false, apart := false, narrowed := true }
def FormulaEvalsUptoSaid : Prop := formulaEvalsUptoRow.holds Tryz.pinned (OpenSpec.upto formulaEvalsSpec)

/-- 'motleylaw02.FormulaClauses', WHERE WHAT IT READS IS OF BULK AT MOST 1048576: true; the input reads as it did. -/
def formulaClausesUptoRow : OpenClaim := { program := "ytkgllhkhdjodeaagreat", sum := "6c08741cef012d17b6fd7d04766492eaae8e7a231db7fcbb2b0dac04b76c8dac", func := "motley/motleylaw02.FormulaClauses", spec := "formulaClauses", inPlace := ["internal/abi.NoEscape"], unfollowed := true, recurses := true, plainKeys := false, apart := false, narrowed := true }
def FormulaClausesUptoSaid : Prop := formulaClausesUptoRow.holds Tryz.pinned (OpenSpec.upto formulaClausesSpec)

/-- 'motleylaw02.FormulaOf', WHERE WHAT IT READS IS OF BULK AT MOST 1048576: true; the input reads as it did. -/
def formulaOfUptoRow : OpenClaim := { program := "ytkgllhkhdjodeaagreat", sum := "6c08741cef012d17b6fd7d04766492eaae8e7a231db7fcbb2b0dac04b76c8dac", func := "motley/motleylaw02.FormulaOf", spec := "formulaOf", inPlace := ["internal/abi.NoEscape"], unfollowed := true, recurses := true, plainKeys := false, apart := false, narrowed := true }
def FormulaOfUptoSaid : Prop := formulaOfUptoRow.holds Tryz.pinned (OpenSpec.upto formulaOfSpec)

/-- 'motleylaw02.FormulaSets', WHERE WHAT IT READS IS OF BULK AT MOST 1048576: true; the input reads as it did. -/
def formulaSetsUptoRow : OpenClaim := { program := "ytkgllhkhdjodeaagreat", sum := "6c08741cef012d17b6fd7d04766492eaae8e7a231db7fcbb2b0dac04b76c8dac", func := "motley/motleylaw02.FormulaSets", spec := "formulaSets", inPlace := ["internal/abi.NoEscape"], unfollowed := true, recurses := true, plainKeys := false, apart := false, narrowed := true }
def FormulaSetsUptoSaid : Prop := formulaSetsUptoRow.holds Tryz.pinned (OpenSpec.upto formulaSetsSpec)

/-- 'motleylaw02.FormulaRound', WHERE WHAT IT READS IS OF BULK AT MOST 1048576: true; the input reads as it did. -/
def formulaRoundUptoRow : OpenClaim := { program := "ytkgllhkhdjodeaagreat", sum := "6c08741cef012d17b6fd7d04766492eaae8e7a231db7fcbb2b0dac04b76c8dac", func := "motley/motleylaw02.FormulaRound", spec := "formulaRound", inPlace := ["internal/abi.NoEscape"], unfollowed := true, recurses := true, plainKeys := false, apart := false, narrowed := true }
def FormulaRoundUptoSaid : Prop := formulaRoundUptoRow.holds Tryz.pinned (OpenSpec.upto formulaRoundSpec)

end Rows
end Go.Proofs.YtkgllhkhdjodeaaGreat
