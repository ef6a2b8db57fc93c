/-
  PROVED: 'motleylaw02.FormulaOwn' returns true for every input, and leaves its arguments as they were. No condition.
-/
import Derived.Test.YtbippghgkbapnaaPaOwn5
namespace Go.Proofs.Ytbippghgkbapnaa
open Go Go.Eng Go.Proofs Go.ChangeShapes Go.WideShapes Go.ChangeAt Go.RowKit Go.ChangeMaps

set_option maxRecDepth 100000 in
theorem formulaOwn_lifted (os : Os) (started : os.Started) (H : Type) (enc : TypeId × Value → H) :
    ReturnsInHanded {} Try.checked os 12 .any (Rows.formulaOwnSpec.pre6 enc Try.prog Try.f12 Rows.formulaOwnRow.domain false) (Rows.formulaOwnSpec.post enc Try.prog Try.f12 false true false false) := by
  refine returnsInHanded_of_change (C := Try.checked) ownKnob_none started (by kernel_rfl) Try.func12
    (ChangeSpec.witness6 (enc := enc) (C := Try.checked) false ⟨#[], #[.agg #[.int .u8 0, .string ⟨#[]⟩, .slice none 0 0], .agg #[.int .u8 0, .string ⟨#[]⟩, .slice none 0 0]], []⟩ 8 (by kernel_rfl) (by kernel_rfl) (by kernel_rfl) (by kernel_rfl)) ?_
  intro W base args ds gs before hval0 hW hcnd _
  have hval : ∀ (j : Nat) t v, Try.f12.params[j]? = some t → args[j]? = some v → Value.okWide Try.prog W .any base t v := hval0
  have hW' := hW
  obtain ⟨p, q, hA0, hV, rfl, hfz, hnd⟩ := hW
  have hA : DataW.TrodAll enc Try.prog W 0 (fun _ => true) true Try.f12.params.toList args.toList ds p := hA0
  have hpar : Try.f12.params = #[25, 25] := by kernel_rfl
  rw [hpar] at hA hval
  obtain ⟨v0, v1, d0, d1, p0, p1, rfl, rfl, rfl, h0, h1⟩ := trodAll_two hA
  obtain ⟨rfl, rfl⟩ := trodVars_none hV
  obtain ⟨t0, G0, a0, c0, rfl, hr0⟩ := open_expr (hval 0 25 v0 rfl rfl) h0
  obtain ⟨t1, G1, a1, c1, rfl, hr1⟩ := open_expr (hval 1 25 v1 rfl rfl) h1
  have hw := FormulaOwn_c t0 G0 a0 c0 t1 G1 a1 c1 W hr0 hr1
  refine hw.mono fun e W' ⟨he, hSt⟩ => ?_
  subst he
  exact ⟨_, rfl, law_post' (by kernel_rfl) (by rw [hpar]; decide) rfl hW' rfl rfl rfl hSt⟩

theorem formulaOwn_holds : Rows.FormulaOwnSaid :=
  OpenClaim.holds_of_wide 12 Try.f12 rfl rfl rfl rfl rfl rfl rfl ⟨rfl, rfl, rfl, rfl, rfl⟩ rfl rfl rfl rfl rfl (by kernel_rfl) Try.func12 (by kernel_rfl)
    (of_decide_eq_true (by kernel_rfl)) (by unfold Func.isWrapper; first | (rw [if_pos (by decide +kernel)]; kernel_rfl) | (rw [if_neg (by decide +kernel)]; exact ⟨rfl, rfl⟩))
    (fun os started H enc _ => formulaOwn_lifted os started H enc)
#print axioms formulaOwn_holds
end Go.Proofs.Ytbippghgkbapnaa
