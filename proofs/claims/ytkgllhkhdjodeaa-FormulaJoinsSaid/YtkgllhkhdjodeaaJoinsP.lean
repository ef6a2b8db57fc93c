/-
  PROVED: 'motleylaw02.FormulaJoins' returns true for every input, and leaves its arguments as they were. No condition.
-/
import Derived.Test.YtkgllhkhdjodeaaPaJoins6
set_option linter.unusedVariables false
namespace Go.Proofs.Ytkgllhkhdjodeaa
open Go Go.Eng Go.Proofs Go.ChangeShapes Go.WideShapes Go.ChangeAt Go.RowKit Go.ChangeMaps

set_option maxRecDepth 100000 in
theorem formulaJoins_lifted (os : Os) (started : os.Started) (H : Type) (enc : TypeId × Value → H) :
    ReturnsInHanded {} Try.checked os 7 .any (Rows.formulaJoinsSpec.pre6 enc Try.prog Try.f7 Rows.formulaJoinsRow.domain false) (Rows.formulaJoinsSpec.post enc Try.prog Try.f7 false true false false) := by
  refine returnsInHanded_of_change (C := Try.checked) ownKnob_none started (by kernel_rfl) Try.func7
    (ChangeSpec.witness6 (enc := enc) (C := Try.checked) false ⟨#[], #[.int .i64 0, .slice none 0 0], []⟩ 8 (by kernel_rfl) (by kernel_rfl) (by kernel_rfl) (by kernel_rfl)) ?_
  intro W base args ds gs before hval0 hW hcnd _
  have hval : ∀ (j : Nat) t v, Try.f7.params[j]? = some t → args[j]? = some v → Value.okWide Try.prog W .any base t v := hval0
  have hW' := hW
  obtain ⟨p, q, hA0, hV, rfl, hfz, hnd⟩ := hW
  have hA : DataW.TrodAll enc Try.prog W 0 (fun _ => true) true Try.f7.params.toList args.toList ds p := hA0
  have hpar : Try.f7.params = #[3, 33] := by kernel_rfl
  rw [hpar] at hA hval
  obtain ⟨v0, v1, d0, d1, p0, p1, rfl, rfl, rfl, h0, h1⟩ := trodAll_two hA
  obtain ⟨rfl, rfl⟩ := trodVars_none hV
  obtain ⟨n0, rfl, hn0⟩ := open_i64 (hval 0 3 v0 rfl rfl) h0
  obtain ⟨l1, a1, k1, us1, rfl, hr1⟩ := open_ll (hval 1 33 v1 rfl rfl) h1
  have ha1 := slice_addr und38' (hval 1 33 _ rfl rfl)
  have hw := FormulaJoins_c n0 l1 a1 k1 us1 W hn0 hr1
  refine hw.mono fun e W' ⟨he, hSt⟩ => ?_
  subst he
  exact ⟨_, rfl, law_post' (by kernel_rfl) (by rw [hpar]; decide) rfl hW' rfl rfl rfl hSt⟩

theorem formulaJoins_holds : Rows.FormulaJoinsSaid :=
  OpenClaim.holds_of_wide 7 Try.f7 rfl rfl rfl rfl rfl rfl rfl ⟨rfl, rfl, rfl, rfl, rfl⟩ rfl rfl rfl rfl rfl (by kernel_rfl) Try.func7 (by kernel_rfl)
    (of_decide_eq_true (by kernel_rfl)) (by unfold Func.isWrapper; first | (rw [if_pos (by decide +kernel)]; kernel_rfl) | (rw [if_neg (by decide +kernel)]; exact ⟨rfl, rfl⟩))
    (fun os started H enc _ => formulaJoins_lifted os started H enc)
#print axioms formulaJoins_holds
end Go.Proofs.Ytkgllhkhdjodeaa
