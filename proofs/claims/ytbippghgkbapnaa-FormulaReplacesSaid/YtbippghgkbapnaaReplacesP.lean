/-
  PROVED: 'motleylaw02.FormulaReplaces' returns true for every input, and leaves its arguments as they were. No condition.
-/
import Derived.Test.YtbippghgkbapnaaPaReplaces5
namespace Go.Proofs.Ytbippghgkbapnaa
open Go Go.Eng Go.Proofs Go.ChangeShapes Go.WideShapes Go.ChangeAt Go.RowKit Go.ChangeMaps

set_option maxRecDepth 100000 in
theorem formulaReplaces_lifted (os : Os) (started : os.Started) (H : Type) (enc : TypeId × Value → H) :
    ReturnsInHanded {} Try.checked os 11 .any (Rows.formulaReplacesSpec.pre6 enc Try.prog Try.f11 Rows.formulaReplacesRow.domain false) (Rows.formulaReplacesSpec.post enc Try.prog Try.f11 false true false false) := by
  refine returnsInHanded_of_change (C := Try.checked) ownKnob_none started (by kernel_rfl) Try.func11
    (ChangeSpec.witness6 (enc := enc) (C := Try.checked) false ⟨#[], #[.agg #[.int .u8 0, .string ⟨#[]⟩, .slice none 0 0], .string ⟨#[]⟩, .agg #[.int .u8 0, .string ⟨#[]⟩, .slice none 0 0]], []⟩ 8 (by kernel_rfl) (by kernel_rfl) (by kernel_rfl) (by kernel_rfl)) ?_
  intro W base args ds gs before hval0 hW hcnd _
  have hval : ∀ (j : Nat) t v, Try.f11.params[j]? = some t → args[j]? = some v → Value.okWide Try.prog W .any base t v := hval0
  have hW' := hW
  obtain ⟨p, q, hA0, hV, rfl, hfz, hnd⟩ := hW
  have hA : DataW.TrodAll enc Try.prog W 0 (fun _ => true) true Try.f11.params.toList args.toList ds p := hA0
  have hpar : Try.f11.params = #[25, 9, 25] := by kernel_rfl
  rw [hpar] at hA hval
  obtain ⟨v0, v1, v2, d0, d1, d2, p0, p1, p2, rfl, rfl, rfl, h0, h1, h2⟩ := trodAll_three hA
  obtain ⟨rfl, rfl⟩ := trodVars_none hV
  obtain ⟨t0, G0, a0, c0, rfl, hr0⟩ := open_expr (hval 0 25 v0 rfl rfl) h0
  obtain ⟨s1, rfl, rfl, _, _⟩ := open_string und_string (hval 1 9 v1 rfl rfl) h1
  obtain ⟨t2, G2, a2, c2, rfl, hr2⟩ := open_expr (hval 2 25 v2 rfl rfl) h2
  have hw := FormulaReplaces_c t0 G0 a0 c0 s1.data.toList t2 G2 a2 c2 W hr0 hr2
  rw [str_data] at hw
  refine hw.mono fun e W' ⟨he, hSt⟩ => ?_
  subst he
  exact ⟨_, rfl, law_post' (by kernel_rfl) (by rw [hpar]; decide) rfl hW' rfl rfl rfl hSt⟩

theorem formulaReplaces_holds : Rows.FormulaReplacesSaid :=
  OpenClaim.holds_of_wide 11 Try.f11 rfl rfl rfl rfl rfl rfl rfl ⟨rfl, rfl, rfl, rfl, rfl⟩ rfl rfl rfl rfl rfl (by kernel_rfl) Try.func11 (by kernel_rfl)
    (of_decide_eq_true (by kernel_rfl)) (by unfold Func.isWrapper; first | (rw [if_pos (by decide +kernel)]; kernel_rfl) | (rw [if_neg (by decide +kernel)]; exact ⟨rfl, rfl⟩))
    (fun os started H enc _ => formulaReplaces_lifted os started H enc)
#print axioms formulaReplaces_holds
end Go.Proofs.Ytbippghgkbapnaa
