/-
  No cell of these rows narrows 'for every input' (looked for: loops, veiled, ifaces, maps, wideKeys, modest, calm, conditions, laid).
  DERIVED. THE GIVEN ROWS OF THIS SEAT. 5 by the template 'for every input the law returns true; each argument reads behind the call as it read before'; 0 by the template 'total and deterministic' (their statements: YtkgllhkhdjodeaaTotals.lean).
  GIVEN WITH THE SEED: the statements are not yours to turn. If you find one false, say at which input.
  Laid BY PROGRAM, IN A SANDBOX (cutbox-rows.mjs): the forced cells as the released guide's own fill.sh prints them over the translation 4b38ea2ed3db1c5e… (all of the seat's roots in one cut). By AI agents, Wed Nov 11 2026. No macro, syntax, notation, axiom, sorry.
-/
import Derived.Test.YtkgllhkhdjodeaaChecked
import GoSem.Claim
import GoSem.ClaimJoined
import GoSem.ClaimMapViews
import Derived.JoinedTies
import Derived.KernelRfl
namespace Go.Proofs.Ytkgllhkhdjodeaa
/- THE CELL 'sum', in the pinned program and in every row, IS THE sha256 OF THE DUMP (.gsa) THAT YtkgllhkhdjodeaaProg.lean LOADS. Nothing in Lean hashes anything: it is a label: what it is worth is what the hold of that sum in a sandbox is worth. -/
noncomputable def Try.pinned : Pinned := { name := "ytkgllhkhdjodeaa", sum := "4b38ea2ed3db1c5e9fca0203776511d26967aa6ae1e9441f21bcaabd439dccd9", checked := Try.checked }
namespace Rows
def none {H : Type} : Left H := { results := [], args := [] }

/-- 'motleylaw02.FormulaWide': WHATEVER THE INPUT: true; the input reads as it did. -/
def formulaWideSpec : ChangeSpec := { name := "formulaWide", fn := fun _ => fun
  | [d] => { results := [.lit (.bool true)], args := [d] }
  | _ => none }
def formulaWideRow : OpenClaim := { program := "ytkgllhkhdjodeaa", sum := "4b38ea2ed3db1c5e9fca0203776511d26967aa6ae1e9441f21bcaabd439dccd9", func := "motley/motleylaw02.FormulaWide", spec := "formulaWide", inPlace := ["internal/abi.NoEscape"], unfollowed := true, recurses := true, plainKeys := false, apart := false }
def FormulaWideSaid : Prop := formulaWideRow.holds Try.pinned (OpenSpec.ofChange formulaWideSpec)

/-- ITS FALSE NEIGHBOUR: 'it returns false'. Refute it at one input. -/
def formulaWideWrong : ChangeSpec := { name := "formulaWide", fn := fun _ => fun
  | [d] => { results := [.lit (.bool false)], args := [d] }
  | _ => none }
def FormulaWideWrongFalsely : Prop := formulaWideRow.holds Try.pinned (OpenSpec.ofChange formulaWideWrong)

/-- 'motleylaw02.FormulaRefutes': WHATEVER THE INPUT: true; the input reads as it did. -/
def formulaRefutesSpec : ChangeSpec := { name := "formulaRefutes", fn := fun _ => fun
  | [d1, d2, d3] => { results := [.lit (.bool true)], args := [d1, d2, d3] }
  | _ => none }
def formulaRefutesRow : OpenClaim := { program := "ytkgllhkhdjodeaa", sum := "4b38ea2ed3db1c5e9fca0203776511d26967aa6ae1e9441f21bcaabd439dccd9", func := "motley/motleylaw02.FormulaRefutes", spec := "formulaRefutes", inPlace := ["internal/abi.NoEscape"], unfollowed := true, recurses := true, plainKeys := false, apart := false }
def FormulaRefutesSaid : Prop := formulaRefutesRow.holds Try.pinned (OpenSpec.ofChange formulaRefutesSpec)

/-- ITS FALSE NEIGHBOUR: 'it returns false'. Refute it at one input. -/
def formulaRefutesWrong : ChangeSpec := { name := "formulaRefutes", fn := fun _ => fun
  | [d1, d2, d3] => { results := [.lit (.bool false)], args := [d1, d2, d3] }
  | _ => none }
def FormulaRefutesWrongFalsely : Prop := formulaRefutesRow.holds Try.pinned (OpenSpec.ofChange formulaRefutesWrong)

/-- 'motleylaw02.FormulaCores': WHATEVER THE INPUT: true; the input reads as it did. -/
def formulaCoresSpec : ChangeSpec := { name := "formulaCores", fn := fun _ => fun
  | [d1, d2] => { results := [.lit (.bool true)], args := [d1, d2] }
  | _ => none }
def formulaCoresRow : OpenClaim := { program := "ytkgllhkhdjodeaa", sum := "4b38ea2ed3db1c5e9fca0203776511d26967aa6ae1e9441f21bcaabd439dccd9", func := "motley/motleylaw02.FormulaCores", spec := "formulaCores", inPlace := ["internal/abi.NoEscape"], unfollowed := true, recurses := true, plainKeys := false, apart := false }
def FormulaCoresSaid : Prop := formulaCoresRow.holds Try.pinned (OpenSpec.ofChange formulaCoresSpec)

/-- ITS FALSE NEIGHBOUR: 'it returns false'. Refute it at one input. -/
def formulaCoresWrong : ChangeSpec := { name := "formulaCores", fn := fun _ => fun
  | [d1, d2] => { results := [.lit (.bool false)], args := [d1, d2] }
  | _ => none }
def FormulaCoresWrongFalsely : Prop := formulaCoresRow.holds Try.pinned (OpenSpec.ofChange formulaCoresWrong)

/-- 'motleylaw02.FormulaMinimal': WHATEVER THE INPUT: true; the input reads as it did. -/
def formulaMinimalSpec : ChangeSpec := { name := "formulaMinimal", fn := fun _ => fun
  | [d1, d2] => { results := [.lit (.bool true)], args := [d1, d2] }
  | _ => none }
def formulaMinimalRow : OpenClaim := { program := "ytkgllhkhdjodeaa", sum := "4b38ea2ed3db1c5e9fca0203776511d26967aa6ae1e9441f21bcaabd439dccd9", func := "motley/motleylaw02.FormulaMinimal", spec := "formulaMinimal", inPlace := ["internal/abi.NoEscape"], unfollowed := true, recurses := true, plainKeys := false, apart := false }
def FormulaMinimalSaid : Prop := formulaMinimalRow.holds Try.pinned (OpenSpec.ofChange formulaMinimalSpec)

/-- ITS FALSE NEIGHBOUR: 'it returns false'. Refute it at one input. -/
def formulaMinimalWrong : ChangeSpec := { name := "formulaMinimal", fn := fun _ => fun
  | [d1, d2] => { results := [.lit (.bool false)], args := [d1, d2] }
  | _ => none }
def FormulaMinimalWrongFalsely : Prop := formulaMinimalRow.holds Try.pinned (OpenSpec.ofChange formulaMinimalWrong)

/-- 'motleylaw02.FormulaJoins': WHATEVER THE INPUT: true; the input reads as it did. -/
def formulaJoinsSpec : ChangeSpec := { name := "formulaJoins", fn := fun _ => fun
  | [d1, d2] => { results := [.lit (.bool true)], args := [d1, d2] }
  | _ => none }
def formulaJoinsRow : OpenClaim := { program := "ytkgllhkhdjodeaa", sum := "4b38ea2ed3db1c5e9fca0203776511d26967aa6ae1e9441f21bcaabd439dccd9", func := "motley/motleylaw02.FormulaJoins", spec := "formulaJoins", inPlace := ["internal/abi.NoEscape"], unfollowed := true, recurses := true, plainKeys := false, apart := false }
def FormulaJoinsSaid : Prop := formulaJoinsRow.holds Try.pinned (OpenSpec.ofChange formulaJoinsSpec)

/-- ITS FALSE NEIGHBOUR: 'it returns false'. Refute it at one input. -/
def formulaJoinsWrong : ChangeSpec := { name := "formulaJoins", fn := fun _ => fun
  | [d1, d2] => { results := [.lit (.bool false)], args := [d1, d2] }
  | _ => none }
def FormulaJoinsWrongFalsely : Prop := formulaJoinsRow.holds Try.pinned (OpenSpec.ofChange formulaJoinsWrong)

/- THE SECOND FORM. 'bulk': how many values and letters a reading holds, each counted each time it is reached (what is shared counts as often as it is met; a slice's spare places count too). A statement '..UptoSaid' is the law's where the arguments, and the package variables that the reading takes, are together of bulk at most 1048576: NARROWER than '..Said'. Prove '..Said' where nothing that the law and all that it calls make is longer than what came in: it says more and counts as full. Else prove '..UptoSaid'. A law counts once. -/
mutual
def uptoBulk {H : Type} : DataW H → Nat
  | .lit (.string bytes) => bytes.length + 1
  | .lit _ => 1
  | .nil => 1
  | .ptr d => uptoBulk d + 1
  | .slice elems spare => uptoBulkAll elems + uptoBulkAll spare + 1
  | .agg parts => uptoBulkAll parts + 1
  | .iface _ d => uptoBulk d + 1
  | .map entries => uptoBulkEntries entries + 1
  | .held _ => 1
def uptoBulkAll {H : Type} : List (DataW H) → Nat
  | [] => 0
  | d :: r => uptoBulk d + uptoBulkAll r
def uptoBulkEntries {H : Type} : List (Lit × DataW H) → Nat
  | [] => 0
  | x :: r => uptoBulkEntry x + uptoBulkEntries r
def uptoBulkEntry {H : Type} : Lit × DataW H → Nat
  | (.string bytes, d) => bytes.length + uptoBulk d + 1
  | (_, d) => uptoBulk d + 1
 end
def uptoSmall : (H : Type) → List (DataW H) → Bool := fun _ ds => decide (uptoBulkAll ds ≤ 1048576)
def OpenSpec.upto (s : _root_.Go.ChangeSpec) : _root_.Go.OpenSpec := { _root_.Go.OpenSpec.ofChange s with cond := some uptoSmall }

/-- 'motleylaw02.FormulaWide', WHERE WHAT IT READS IS OF BULK AT MOST 1048576: true; the input reads as it did. -/
def formulaWideUptoRow : OpenClaim := { program := "ytkgllhkhdjodeaa", sum := "4b38ea2ed3db1c5e9fca0203776511d26967aa6ae1e9441f21bcaabd439dccd9", func := "motley/motleylaw02.FormulaWide", spec := "formulaWide", inPlace := ["internal/abi.NoEscape"], unfollowed := true, recurses := true, plainKeys := false, apart := false, narrowed := true }
def FormulaWideUptoSaid : Prop := formulaWideUptoRow.holds Try.pinned (OpenSpec.upto formulaWideSpec)

/-- 'motleylaw02.FormulaRefutes', WHERE WHAT IT READS IS OF BULK AT MOST 1048576: true; the input reads as it did. -/
def formulaRefutesUptoRow : OpenClaim := { program := "ytkgllhkhdjodeaa", sum := "4b38ea2ed3db1c5e9fca0203776511d26967aa6ae1e9441f21bcaabd439dccd9", func := "motley/motleylaw02.FormulaRefutes", spec := "formulaRefutes", inPlace := ["internal/abi.NoEscape"], unfollowed := true, recurses := true, plainKeys := false, apart := false, narrowed := true }
def FormulaRefutesUptoSaid : Prop := formulaRefutesUptoRow.holds Try.pinned (OpenSpec.upto formulaRefutesSpec)

/-- 'motleylaw02.FormulaCores', WHERE WHAT IT READS IS OF BULK AT MOST 1048576: true; the input reads as it did. -/
def formulaCoresUptoRow : OpenClaim := { program := "ytkgllhkhdjodeaa", sum := "4b38ea2ed3db1c5e9fca0203776511d26967aa6ae1e9441f21bcaabd439dccd9", func := "motley/motleylaw02.FormulaCores", spec := "formulaCores", inPlace := ["internal/abi.NoEscape"], unfollowed := true, recurses := true, plainKeys := false, apart := false, narrowed := true }
def FormulaCoresUptoSaid : Prop := formulaCoresUptoRow.holds Try.pinned (OpenSpec.upto formulaCoresSpec)

/-- 'motleylaw02.FormulaMinimal', WHERE WHAT IT READS IS OF BULK AT MOST 1048576: true; the input reads as it did. -/
def formulaMinimalUptoRow : OpenClaim := { program := "ytkgllhkhdjodeaa", sum := "4b38ea2ed3db1c5e9fca0203776511d26967aa6ae1e9441f21bcaabd439dccd9", func := "motley/motleylaw02.FormulaMinimal", spec := "formulaMinimal", inPlace := ["internal/abi.NoEscape"], unfollowed := true, recurses := true, plainKeys := false, apart := false, narrowed := true }
def FormulaMinimalUptoSaid : Prop := formulaMinimalUptoRow.holds Try.pinned (OpenSpec.upto formulaMinimalSpec)

/-- 'motleylaw02.FormulaJoins', WHERE WHAT IT READS IS OF BULK AT MOST 1048576: true; the input reads as it did. -/
def formulaJoinsUptoRow : OpenClaim := { program := "ytkgllhkhdjodeaa", sum := "4b38ea2ed3db1c5e9fca0203776511d26967aa6ae1e9441f21bcaabd439dccd9", func := "motley/motleylaw02.FormulaJoins", spec := "formulaJoins", inPlace := ["internal/abi.NoEscape"], unfollowed := true, recurses := true, plainKeys := false, apart := false, narrowed := true }
def FormulaJoinsUptoSaid : Prop := formulaJoinsUptoRow.holds Try.pinned (OpenSpec.upto formulaJoinsSpec)

end Rows
end Go.Proofs.Ytkgllhkhdjodeaa
