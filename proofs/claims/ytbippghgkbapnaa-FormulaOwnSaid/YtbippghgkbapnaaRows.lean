/-
  NARROWER THAN 'FOR EVERY INPUT', by the rows' own cells (each row's printed sentence says how): FormulaPrints: loops · FormulaBack: loops · FormulaTells: loops · FormulaReplaces: loops · FormulaOwn: loops.
  DERIVED. THE GIVEN ROWS OF THIS SEAT. 10 by the template 'for every input the law returns true; each argument reads behind the call as it read before'; 0 by the template 'total and deterministic' (their statements: YtbippghgkbapnaaTotals.lean).
  GIVEN WITH THE SEED: the statements are not yours to turn. If you find one false, say at which input.
  Laid BY PROGRAM, IN A SANDBOX (cutbox-rows.mjs): the forced cells as the released guide's own fill.sh prints them over the translation 4a5b210f3f41e8fe… (all of the seat's roots in one cut). By AI agents, Wed Nov 11 2026. No macro, syntax, notation, axiom, sorry.
-/
import Derived.Test.YtbippghgkbapnaaChecked
import GoSem.Claim
import GoSem.ClaimJoined
import GoSem.ClaimMapViews
import Derived.JoinedTies
import Derived.KernelRfl
namespace Go.Proofs.Ytbippghgkbapnaa
/- THE CELL 'sum', in the pinned program and in every row, IS THE sha256 OF THE DUMP (.gsa) THAT YtbippghgkbapnaaProg.lean LOADS. Nothing in Lean hashes anything: it is a label: what it is worth is what the hold of that sum in a sandbox is worth. -/
noncomputable def Try.pinned : Pinned := { name := "ytbippghgkbapnaa", sum := "4a5b210f3f41e8fe402cda073d7976cb9ca59bbcd1f3dcd8d93b6c4fd723489c", checked := Try.checked }
namespace Rows
def none {H : Type} : Left H := { results := [], args := [] }

/-- 'motleylaw02.FormulaParses': WHATEVER THE INPUT: true; the input reads as it did. -/
def formulaParsesSpec : ChangeSpec := { name := "formulaParses", fn := fun _ => fun
  | [d] => { results := [.lit (.bool true)], args := [d] }
  | _ => none }
def formulaParsesRow : OpenClaim := { program := "ytbippghgkbapnaa", sum := "4a5b210f3f41e8fe402cda073d7976cb9ca59bbcd1f3dcd8d93b6c4fd723489c", func := "motley/motleylaw02.FormulaParses", spec := "formulaParses", inPlace := ["internal/abi.NoEscape"], unfollowed := true, recurses := true, apart := false }
def FormulaParsesSaid : Prop := formulaParsesRow.holds Try.pinned (OpenSpec.ofChange formulaParsesSpec)

/-- ITS FALSE NEIGHBOUR: 'it returns false'. Refute it at one input. -/
def formulaParsesWrong : ChangeSpec := { name := "formulaParses", fn := fun _ => fun
  | [d] => { results := [.lit (.bool false)], args := [d] }
  | _ => none }
def FormulaParsesWrongFalsely : Prop := formulaParsesRow.holds Try.pinned (OpenSpec.ofChange formulaParsesWrong)

/-- 'motleylaw02.FormulaLong': WHATEVER THE INPUT: true; the input reads as it did. -/
def formulaLongSpec : ChangeSpec := { name := "formulaLong", fn := fun _ => fun
  | [d1, d2] => { results := [.lit (.bool true)], args := [d1, d2] }
  | _ => none }
def formulaLongRow : OpenClaim := { program := "ytbippghgkbapnaa", sum := "4a5b210f3f41e8fe402cda073d7976cb9ca59bbcd1f3dcd8d93b6c4fd723489c", func := "motley/motleylaw02.FormulaLong", spec := "formulaLong", inPlace := ["internal/abi.NoEscape"], unfollowed := true, recurses := true, apart := false }
def FormulaLongSaid : Prop := formulaLongRow.holds Try.pinned (OpenSpec.ofChange formulaLongSpec)

/-- ITS FALSE NEIGHBOUR: 'it returns false'. Refute it at one input. -/
def formulaLongWrong : ChangeSpec := { name := "formulaLong", fn := fun _ => fun
  | [d1, d2] => { results := [.lit (.bool false)], args := [d1, d2] }
  | _ => none }
def FormulaLongWrongFalsely : Prop := formulaLongRow.holds Try.pinned (OpenSpec.ofChange formulaLongWrong)

/-- 'motleylaw02.FormulaPrints': WHATEVER THE INPUT: true; the input reads as it did. -/
def formulaPrintsSpec : ChangeSpec := { name := "formulaPrints", fn := fun _ => fun
  | [d] => { results := [.lit (.bool true)], args := [d] }
  | _ => none }
def formulaPrintsRow : OpenClaim := { program := "ytbippghgkbapnaa", sum := "4a5b210f3f41e8fe402cda073d7976cb9ca59bbcd1f3dcd8d93b6c4fd723489c", func := "motley/motleylaw02.FormulaPrints", spec := "formulaPrints", inPlace := ["internal/abi.NoEscape"], unfollowed := true, recurses := true, loops := true, apart := false }
def FormulaPrintsSaid : Prop := formulaPrintsRow.holds Try.pinned (OpenSpec.ofChange formulaPrintsSpec)

/-- ITS FALSE NEIGHBOUR: 'it returns false'. Refute it at one input. -/
def formulaPrintsWrong : ChangeSpec := { name := "formulaPrints", fn := fun _ => fun
  | [d] => { results := [.lit (.bool false)], args := [d] }
  | _ => none }
def FormulaPrintsWrongFalsely : Prop := formulaPrintsRow.holds Try.pinned (OpenSpec.ofChange formulaPrintsWrong)

/-- 'motleylaw02.FormulaSolves': WHATEVER THE INPUT: true; the input reads as it did. -/
def formulaSolvesSpec : ChangeSpec := { name := "formulaSolves", fn := fun _ => fun
  | [d1, d2] => { results := [.lit (.bool true)], args := [d1, d2] }
  | _ => none }
def formulaSolvesRow : OpenClaim := { program := "ytbippghgkbapnaa", sum := "4a5b210f3f41e8fe402cda073d7976cb9ca59bbcd1f3dcd8d93b6c4fd723489c", func := "motley/motleylaw02.FormulaSolves", spec := "formulaSolves", inPlace := ["internal/abi.NoEscape"], unfollowed := true, recurses := true, apart := false }
def FormulaSolvesSaid : Prop := formulaSolvesRow.holds Try.pinned (OpenSpec.ofChange formulaSolvesSpec)

/-- ITS FALSE NEIGHBOUR: 'it returns false'. Refute it at one input. -/
def formulaSolvesWrong : ChangeSpec := { name := "formulaSolves", fn := fun _ => fun
  | [d1, d2] => { results := [.lit (.bool false)], args := [d1, d2] }
  | _ => none }
def FormulaSolvesWrongFalsely : Prop := formulaSolvesRow.holds Try.pinned (OpenSpec.ofChange formulaSolvesWrong)

/-- 'motleylaw02.FormulaBack': WHATEVER THE INPUT: true; the input reads as it did. -/
def formulaBackSpec : ChangeSpec := { name := "formulaBack", fn := fun _ => fun
  | [d] => { results := [.lit (.bool true)], args := [d] }
  | _ => none }
def formulaBackRow : OpenClaim := { program := "ytbippghgkbapnaa", sum := "4a5b210f3f41e8fe402cda073d7976cb9ca59bbcd1f3dcd8d93b6c4fd723489c", func := "motley/motleylaw02.FormulaBack", spec := "formulaBack", inPlace := ["internal/abi.NoEscape"], unfollowed := true, recurses := true, loops := true, apart := false }
def FormulaBackSaid : Prop := formulaBackRow.holds Try.pinned (OpenSpec.ofChange formulaBackSpec)

/-- ITS FALSE NEIGHBOUR: 'it returns false'. Refute it at one input. -/
def formulaBackWrong : ChangeSpec := { name := "formulaBack", fn := fun _ => fun
  | [d] => { results := [.lit (.bool false)], args := [d] }
  | _ => none }
def FormulaBackWrongFalsely : Prop := formulaBackRow.holds Try.pinned (OpenSpec.ofChange formulaBackWrong)

/-- 'motleylaw02.FormulaVerifies': WHATEVER THE INPUT: true; the input reads as it did. -/
def formulaVerifiesSpec : ChangeSpec := { name := "formulaVerifies", fn := fun _ => fun
  | [d1, d2, d3] => { results := [.lit (.bool true)], args := [d1, d2, d3] }
  | _ => none }
def formulaVerifiesRow : OpenClaim := { program := "ytbippghgkbapnaa", sum := "4a5b210f3f41e8fe402cda073d7976cb9ca59bbcd1f3dcd8d93b6c4fd723489c", func := "motley/motleylaw02.FormulaVerifies", spec := "formulaVerifies", inPlace := ["internal/abi.NoEscape"], unfollowed := true, recurses := true, apart := false }
def FormulaVerifiesSaid : Prop := formulaVerifiesRow.holds Try.pinned (OpenSpec.ofChange formulaVerifiesSpec)

/-- ITS FALSE NEIGHBOUR: 'it returns false'. Refute it at one input. -/
def formulaVerifiesWrong : ChangeSpec := { name := "formulaVerifies", fn := fun _ => fun
  | [d1, d2, d3] => { results := [.lit (.bool false)], args := [d1, d2, d3] }
  | _ => none }
def FormulaVerifiesWrongFalsely : Prop := formulaVerifiesRow.holds Try.pinned (OpenSpec.ofChange formulaVerifiesWrong)

/-- 'motleylaw02.FormulaPropagates': WHATEVER THE INPUT: true; the input reads as it did. -/
def formulaPropagatesSpec : ChangeSpec := { name := "formulaPropagates", fn := fun _ => fun
  | [d1, d2, d3] => { results := [.lit (.bool true)], args := [d1, d2, d3] }
  | _ => none }
def formulaPropagatesRow : OpenClaim := { program := "ytbippghgkbapnaa", sum := "4a5b210f3f41e8fe402cda073d7976cb9ca59bbcd1f3dcd8d93b6c4fd723489c", func := "motley/motleylaw02.FormulaPropagates", spec := "formulaPropagates", inPlace := ["internal/abi.NoEscape"], unfollowed := true, recurses := true, apart := false }
def FormulaPropagatesSaid : Prop := formulaPropagatesRow.holds Try.pinned (OpenSpec.ofChange formulaPropagatesSpec)

/-- ITS FALSE NEIGHBOUR: 'it returns false'. Refute it at one input. -/
def formulaPropagatesWrong : ChangeSpec := { name := "formulaPropagates", fn := fun _ => fun
  | [d1, d2, d3] => { results := [.lit (.bool false)], args := [d1, d2, d3] }
  | _ => none }
def FormulaPropagatesWrongFalsely : Prop := formulaPropagatesRow.holds Try.pinned (OpenSpec.ofChange formulaPropagatesWrong)

/-- 'motleylaw02.FormulaTells': WHATEVER THE INPUT: true; the input reads as it did. -/
def formulaTellsSpec : ChangeSpec := { name := "formulaTells", fn := fun _ => fun
  | [d1, d2] => { results := [.lit (.bool true)], args := [d1, d2] }
  | _ => none }
def formulaTellsRow : OpenClaim := { program := "ytbippghgkbapnaa", sum := "4a5b210f3f41e8fe402cda073d7976cb9ca59bbcd1f3dcd8d93b6c4fd723489c", func := "motley/motleylaw02.FormulaTells", spec := "formulaTells", inPlace := ["internal/abi.NoEscape"], unfollowed := true, recurses := true, loops := true, apart := false }
def FormulaTellsSaid : Prop := formulaTellsRow.holds Try.pinned (OpenSpec.ofChange formulaTellsSpec)

/-- ITS FALSE NEIGHBOUR: 'it returns false'. Refute it at one input. -/
def formulaTellsWrong : ChangeSpec := { name := "formulaTells", fn := fun _ => fun
  | [d1, d2] => { results := [.lit (.bool false)], args := [d1, d2] }
  | _ => none }
def FormulaTellsWrongFalsely : Prop := formulaTellsRow.holds Try.pinned (OpenSpec.ofChange formulaTellsWrong)

/-- 'motleylaw02.FormulaReplaces': WHATEVER THE INPUT: true; the input reads as it did. -/
def formulaReplacesSpec : ChangeSpec := { name := "formulaReplaces", fn := fun _ => fun
  | [d1, d2, d3] => { results := [.lit (.bool true)], args := [d1, d2, d3] }
  | _ => none }
def formulaReplacesRow : OpenClaim := { program := "ytbippghgkbapnaa", sum := "4a5b210f3f41e8fe402cda073d7976cb9ca59bbcd1f3dcd8d93b6c4fd723489c", func := "motley/motleylaw02.FormulaReplaces", spec := "formulaReplaces", inPlace := ["internal/abi.NoEscape"], unfollowed := true, recurses := true, loops := true, apart := false }
def FormulaReplacesSaid : Prop := formulaReplacesRow.holds Try.pinned (OpenSpec.ofChange formulaReplacesSpec)

/-- ITS FALSE NEIGHBOUR: 'it returns false'. Refute it at one input. -/
def formulaReplacesWrong : ChangeSpec := { name := "formulaReplaces", fn := fun _ => fun
  | [d1, d2, d3] => { results := [.lit (.bool false)], args := [d1, d2, d3] }
  | _ => none }
def FormulaReplacesWrongFalsely : Prop := formulaReplacesRow.holds Try.pinned (OpenSpec.ofChange formulaReplacesWrong)

/-- 'motleylaw02.FormulaOwn': WHATEVER THE INPUT: true; the input reads as it did. -/
def formulaOwnSpec : ChangeSpec := { name := "formulaOwn", fn := fun _ => fun
  | [d1, d2] => { results := [.lit (.bool true)], args := [d1, d2] }
  | _ => none }
def formulaOwnRow : OpenClaim := { program := "ytbippghgkbapnaa", sum := "4a5b210f3f41e8fe402cda073d7976cb9ca59bbcd1f3dcd8d93b6c4fd723489c", func := "motley/motleylaw02.FormulaOwn", spec := "formulaOwn", inPlace := ["internal/abi.NoEscape"], unfollowed := true, recurses := true, loops := true, apart := false }
def FormulaOwnSaid : Prop := formulaOwnRow.holds Try.pinned (OpenSpec.ofChange formulaOwnSpec)

/-- ITS FALSE NEIGHBOUR: 'it returns false'. Refute it at one input. -/
def formulaOwnWrong : ChangeSpec := { name := "formulaOwn", fn := fun _ => fun
  | [d1, d2] => { results := [.lit (.bool false)], args := [d1, d2] }
  | _ => none }
def FormulaOwnWrongFalsely : Prop := formulaOwnRow.holds Try.pinned (OpenSpec.ofChange formulaOwnWrong)

/- THE SECOND FORM. 'bulk': how many values and letters a reading holds, each counted each time it is reached (what is shared counts as often as it is met; a slice's spare places count too). A statement '..UptoSaid' is the law's where the arguments, and the package variables that the reading takes, are together of bulk at most 1048576: NARROWER than '..Said'. Prove '..Said' where nothing that the law and all that it calls make is longer than what came in: it says more and counts as full. Else prove '..UptoSaid'. A law counts once. -/
mutual
def uptoBulk {H : Type} : DataW H → Nat
  | .lit (.string bytes) => bytes.length + 1
  | .lit _ => 1
  | .nil => 1
  | .ptr d => uptoBulk d + 1
  | .slice elems spare => uptoBulkAll elems + uptoBulkAll spare + 1
  | .agg parts => uptoBulkAll parts + 1
  | .iface _ d => uptoBulk d + 1
  | .map entries => uptoBulkEntries entries + 1
  | .held _ => 1
def uptoBulkAll {H : Type} : List (DataW H) → Nat
  | [] => 0
  | d :: r => uptoBulk d + uptoBulkAll r
def uptoBulkEntries {H : Type} : List (Lit × DataW H) → Nat
  | [] => 0
  | x :: r => uptoBulkEntry x + uptoBulkEntries r
def uptoBulkEntry {H : Type} : Lit × DataW H → Nat
  | (.string bytes, d) => bytes.length + uptoBulk d + 1
  | (_, d) => uptoBulk d + 1
 end
def uptoSmall : (H : Type) → List (DataW H) → Bool := fun _ ds => decide (uptoBulkAll ds ≤ 1048576)
def OpenSpec.upto (s : _root_.Go.ChangeSpec) : _root_.Go.OpenSpec := { _root_.Go.OpenSpec.ofChange s with cond := some uptoSmall }

/-- 'motleylaw02.FormulaParses', WHERE WHAT IT READS IS OF BULK AT MOST 1048576: true; the input reads as it did. -/
def formulaParsesUptoRow : OpenClaim := { program := "ytbippghgkbapnaa", sum := "4a5b210f3f41e8fe402cda073d7976cb9ca59bbcd1f3dcd8d93b6c4fd723489c", func := "motley/motleylaw02.FormulaParses", spec := "formulaParses", inPlace := ["internal/abi.NoEscape"], unfollowed := true, recurses := true, apart := false, narrowed := true }
def FormulaParsesUptoSaid : Prop := formulaParsesUptoRow.holds Try.pinned (OpenSpec.upto formulaParsesSpec)

/-- 'motleylaw02.FormulaLong', WHERE WHAT IT READS IS OF BULK AT MOST 1048576: true; the input reads as it did. -/
def formulaLongUptoRow : OpenClaim := { program := "ytbippghgkbapnaa", sum := "4a5b210f3f41e8fe402cda073d7976cb9ca59bbcd1f3dcd8d93b6c4fd723489c", func := "motley/motleylaw02.FormulaLong", spec := "formulaLong", inPlace := ["internal/abi.NoEscape"], unfollowed := true, recurses := true, apart := false, narrowed := true }
def FormulaLongUptoSaid : Prop := formulaLongUptoRow.holds Try.pinned (OpenSpec.upto formulaLongSpec)

/-- 'motleylaw02.FormulaPrints', WHERE WHAT IT READS IS OF BULK AT MOST 1048576: true; the input reads as it did. -/
def formulaPrintsUptoRow : OpenClaim := { program := "ytbippghgkbapnaa", sum := "4a5b210f3f41e8fe402cda073d7976cb9ca59bbcd1f3dcd8d93b6c4fd723489c", func := "motley/motleylaw02.FormulaPrints", spec := "formulaPrints", inPlace := ["internal/abi.NoEscape"], unfollowed := true, recurses := true, loops := true, apart := false, narrowed := true }
def FormulaPrintsUptoSaid : Prop := formulaPrintsUptoRow.holds Try.pinned (OpenSpec.upto formulaPrintsSpec)

/-- 'motleylaw02.FormulaSolves', WHERE WHAT IT READS IS OF BULK AT MOST 1048576: true; the input reads as it did. -/
def formulaSolvesUptoRow : OpenClaim := { program := "ytbippghgkbapnaa", sum := "4a5b210f3f41e8fe402cda073d7976cb9ca59bbcd1f3dcd8d93b6c4fd723489c", func := "motley/motleylaw02.FormulaSolves", spec := "formulaSolves", inPlace := ["internal/abi.NoEscape"], unfollowed := true, recurses := true, apart := false, narrowed := true }
def FormulaSolvesUptoSaid : Prop := formulaSolvesUptoRow.holds Try.pinned (OpenSpec.upto formulaSolvesSpec)

/-- 'motleylaw02.FormulaBack', WHERE WHAT IT READS IS OF BULK AT MOST 1048576: true; the input reads as it did. -/
def formulaBackUptoRow : OpenClaim := { program := "ytbippghgkbapnaa", sum := "4a5b210f3f41e8fe402cda073d7976cb9ca59bbcd1f3dcd8d93b6c4fd723489c", func := "motley/motleylaw02.FormulaBack", spec := "formulaBack", inPlace := ["internal/abi.NoEscape"], unfollowed := true, recurses := true, loops := true, apart := false, narrowed := true }
def FormulaBackUptoSaid : Prop := formulaBackUptoRow.holds Try.pinned (OpenSpec.upto formulaBackSpec)

/-- 'motleylaw02.FormulaVerifies', WHERE WHAT IT READS IS OF BULK AT MOST 1048576: true; the input reads as it did. -/
def formulaVerifiesUptoRow : OpenClaim := { program := "ytbippghgkbapnaa", sum := "4a5b210f3f41e8fe402cda073d7976cb9ca59bbcd1f3dcd8d93b6c4fd723489c", func := "motley/motleylaw02.FormulaVerifies", spec := "formulaVerifies", inPlace := ["internal/abi.NoEscape"], unfollowed := true, recurses := true, apart := false, narrowed := true }
def FormulaVerifiesUptoSaid : Prop := formulaVerifiesUptoRow.holds Try.pinned (OpenSpec.upto formulaVerifiesSpec)

/-- 'motleylaw02.FormulaPropagates', WHERE WHAT IT READS IS OF BULK AT MOST 1048576: true; the input reads as it did. -/
def formulaPropagatesUptoRow : OpenClaim := { program := "ytbippghgkbapnaa", sum := "4a5b210f3f41e8fe402cda073d7976cb9ca59bbcd1f3dcd8d93b6c4fd723489c", func := "motley/motleylaw02.FormulaPropagates", spec := "formulaPropagates", inPlace := ["internal/abi.NoEscape"], unfollowed := true, recurses := true, apart := false, narrowed := true }
def FormulaPropagatesUptoSaid : Prop := formulaPropagatesUptoRow.holds Try.pinned (OpenSpec.upto formulaPropagatesSpec)

/-- 'motleylaw02.FormulaTells', WHERE WHAT IT READS IS OF BULK AT MOST 1048576: true; the input reads as it did. -/
def formulaTellsUptoRow : OpenClaim := { program := "ytbippghgkbapnaa", sum := "4a5b210f3f41e8fe402cda073d7976cb9ca59bbcd1f3dcd8d93b6c4fd723489c", func := "motley/motleylaw02.FormulaTells", spec := "formulaTells", inPlace := ["internal/abi.NoEscape"], unfollowed := true, recurses := true, loops := true, apart := false, narrowed := true }
def FormulaTellsUptoSaid : Prop := formulaTellsUptoRow.holds Try.pinned (OpenSpec.upto formulaTellsSpec)

/-- 'motleylaw02.FormulaReplaces', WHERE WHAT IT READS IS OF BULK AT MOST 1048576: true; the input reads as it did. -/
def formulaReplacesUptoRow : OpenClaim := { program := "ytbippghgkbapnaa", sum := "4a5b210f3f41e8fe402cda073d7976cb9ca59bbcd1f3dcd8d93b6c4fd723489c", func := "motley/motleylaw02.FormulaReplaces", spec := "formulaReplaces", inPlace := ["internal/abi.NoEscape"], unfollowed := true, recurses := true, loops := true, apart := false, narrowed := true }
def FormulaReplacesUptoSaid : Prop := formulaReplacesUptoRow.holds Try.pinned (OpenSpec.upto formulaReplacesSpec)

/-- 'motleylaw02.FormulaOwn', WHERE WHAT IT READS IS OF BULK AT MOST 1048576: true; the input reads as it did. -/
def formulaOwnUptoRow : OpenClaim := { program := "ytbippghgkbapnaa", sum := "4a5b210f3f41e8fe402cda073d7976cb9ca59bbcd1f3dcd8d93b6c4fd723489c", func := "motley/motleylaw02.FormulaOwn", spec := "formulaOwn", inPlace := ["internal/abi.NoEscape"], unfollowed := true, recurses := true, loops := true, apart := false, narrowed := true }
def FormulaOwnUptoSaid : Prop := formulaOwnUptoRow.holds Try.pinned (OpenSpec.upto formulaOwnSpec)

end Rows
end Go.Proofs.Ytbippghgkbapnaa
