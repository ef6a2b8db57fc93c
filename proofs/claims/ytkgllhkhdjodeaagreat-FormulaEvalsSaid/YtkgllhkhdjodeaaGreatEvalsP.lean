/-
 PROVED: 'motleylaw02.FormulaEvals' returns true for every input, and leaves its arguments as they were. No condition.
-/
import Derived.Test.YtkgllhkhdjodeaaGreatPaEvals5
set_option linter.unusedVariables false
namespace Go.Proofs.YtkgllhkhdjodeaaGreat
open Go Go.Eng Go.Proofs Go.ChangeShapes Go.WideShapes Go.ChangeAt Go.RowKit Go.ChangeMaps

set_option maxRecDepth 100000 in
theorem formulaEvals_lifted (os : Os) (started : os.Started) (H : Type) (enc : TypeId × Value → H) :
  ReturnsInHanded {} Tryz.checked os 3 .any (Rows.formulaEvalsSpec.pre6 enc Tryz.prog Tryz.f3 Rows.formulaEvalsRow.domain false) (Rows.formulaEvalsSpec.post enc Tryz.prog Tryz.f3 false true false false) := by
 refine returnsInHanded_of_change (C := Tryz.checked) ownKnob_none started (by kernel_rfl) Tryz.func3
  (ChangeSpec.witness6 (enc := enc) (C := Tryz.checked) false ⟨#[], #[.agg #[.int .u8 0, .string ⟨#[]⟩, .slice none 0 0], .slice none 0 0, .int .u32 0], []⟩ 8 (by kernel_rfl) (by kernel_rfl) (by kernel_rfl) (by kernel_rfl)) ?_
 intro W base args ds gs before hval0 hW hcnd _
 have hval : ∀ (j : Nat) t v, Tryz.f3.params[j]? = some t → args[j]? = some v → Value.okWide Tryz.prog W .any base t v := hval0
 have hW' := hW
 obtain ⟨p, q, hA0, hV, rfl, hfz, hnd⟩ := hW
 have hA : DataW.TrodAll enc Tryz.prog W 0 (fun _ => true) true Tryz.f3.params.toList args.toList ds p := hA0
 have hpar : Tryz.f3.params = #[24, 25, 26] := by kernel_rfl
 rw [hpar] at hA hval
 obtain ⟨v0, v1, v2, d0, d1, d2, p0, p1, p2, rfl, rfl, rfl, h0, h1, h2⟩ := trodAll_three hA
 obtain ⟨rfl, rfl⟩ := trodVars_none hV
 obtain ⟨t0, G0, a0, c0, rfl, hr0⟩ := open_expr (hval 0 24 v0 rfl rfl) h0
 obtain ⟨l1, a1, k1, rfl, hr1, hc1⟩ := open_ls (hval 1 25 v1 rfl rfl) h1
 obtain ⟨n2, rfl, hu2⟩ := open_u32 (hval 2 26 v2 rfl rfl) h2
 have hw := FormulaEvals_c t0 G0 a0 c0 l1 a1 k1 n2 W hr0 hr1 hc1 hu2
 refine hw.mono fun e W' ⟨he, hSt⟩ => ?_
 subst he
 exact ⟨_, rfl, law_post' (by kernel_rfl) (by rw [hpar]; decide) rfl hW' rfl rfl rfl hSt⟩

theorem formulaEvals_holds : Rows.FormulaEvalsSaid :=
 OpenClaim.holds_of_wide 3 Tryz.f3 rfl rfl rfl rfl rfl rfl rfl ⟨rfl, rfl, rfl, rfl, rfl⟩ rfl rfl rfl rfl rfl (by kernel_rfl) Tryz.func3 (by kernel_rfl)
  (of_decide_eq_true (by kernel_rfl)) (by unfold Func.isWrapper; first | (rw [if_pos (by decide +kernel)]; kernel_rfl) | (rw [if_neg (by decide +kernel)]; exact ⟨rfl, rfl⟩))
  (fun os started H enc _ => formulaEvals_lifted os started H enc)
#print axioms formulaEvals_holds
end Go.Proofs.YtkgllhkhdjodeaaGreat
