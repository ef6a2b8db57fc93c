import Derived.Test.YtkgllhkhdjodeaaGreatSpecD4
set_option linter.unusedSimpArgs false
set_option linter.unusedVariables false
/-! The paths of a set to the empty one. -/
namespace Dg
def pathsT : BT → List Int → List (List Int)
  | .lf b, pre => bif b then [] else [pre]
  | .nd v lo hi, pre => pathsT lo (pre ++ [(v : Int) + 1]) ++ pathsT hi (pre ++ [-((v : Int) + 1)])
def pathsN : BT → Nat
  | .lf b => bif b then 0 else 1
  | .nd _ lo hi => pathsN lo + pathsN hi
theorem pathsT_len : ∀ (t : BT) (pre : List Int), (pathsT t pre).length = pathsN t
  | .lf b, pre => by cases b <;> rfl
  | .nd v lo hi, pre => by simp [pathsT, pathsN, pathsT_len lo, pathsT_len hi]
/-- What Fold makes of the nodes: the number of paths, or 4097 if there are more than 4096. -/
structure FP (la : List Dec) (out : List Int) : Prop where
  at' : ∀ k z, out[k]? = some z → z = ((min (pathsN (trs la k)) 4097 : Nat) : Int)
theorem FP.nil (la : List Dec) : FP la [1, 0] := ⟨fun k z hz => by
  rcases k with _ | _ | k
  · simp at hz; rw [(trs_zero la).1, ← hz]; rfl
  · simp at hz; rw [(trs_zero la).2, ← hz]; rfl
  · simp at hz⟩
theorem FP.step {la : List Dec} (hla : Mk la) {out : List Int} (h2 : 2 ≤ out.length) (h : FP la out) {x : Dec} (hx : la[out.length - 2]? = some x) {z1 z2 r : Int} (h1 : out[x.2.1]? = some z1) (h2' : out[x.2.2]? = some z2) (hr : r = if z1 + z2 > 4097 then 4097 else z1 + z2) : FP la (out ++ [r]) := ⟨fun k z hz => by
  by_cases hk : k < out.length
  · rw [List.getElem?_append_left hk] at hz; exact h.at' k z hz
  · have hlt := (List.getElem?_eq_some_iff.1 hz).1
    rw [List.length_append, List.length_singleton] at hlt
    have e : k = out.length := by omega
    subst e
    simp at hz
    have e1 := h.at' _ _ h1
    have e2 := h.at' _ _ h2'
    have ht := hla.at hx
    rw [show out.length - 2 + 2 = out.length by omega] at ht
    rw [ht, ← hz, hr, e1, e2]
    simp only [pathsN]
    split <;> omega⟩
end Dg
