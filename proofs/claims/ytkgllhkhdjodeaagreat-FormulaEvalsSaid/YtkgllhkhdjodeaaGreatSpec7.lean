import Derived.Test.YtkgllhkhdjodeaaGreatSpec3
set_option linter.unusedSimpArgs false
set_option linter.unusedVariables false
namespace Fm
open Go Go.Eng
/-! ### the reference's view of a tree -/
mutual
def rowT : Tree → List Tree
  | .mk op name kids => .mk op name kids :: rowL kids
def rowL : List Tree → List Tree
  | [] => []
  | k :: ks => rowT k ++ rowL ks
end
mutual
def levT : Tree → Nat
  | .mk _ _ kids => levL kids + 1
def levL : List Tree → Nat
  | [] => 0
  | k :: ks => max (levT k) (levL ks)
end
/-- A node as the table of the reference says. -/
def oneB (t : Tree) : Bool :=
  if t.op = 3 then decide (t.kids.length = 0) && isNameB t.name
  else if t.name ≠ [] then false
  else if t.op = 1 ∨ t.op = 2 then decide (t.kids.length = 0)
  else if t.op = 4 then decide (t.kids.length = 1)
  else if t.op = 5 ∨ t.op = 6 ∨ t.op = 7 then decide (2 ≤ t.kids.length)
  else if t.op = 8 ∨ t.op = 9 then decide (t.kids.length = 2)
  else if t.op = 10 then decide (t.kids.length = 3) else false
def refValid (t : Tree) : Bool := (rowT t).all oneB && decide ((rowT t).length ≤ 1000) && decide (levT t ≤ 64)
theorem oneB_right (t : Tree) : oneB t = rightB t := by
  unfold oneB rightB kidsBad kidsOf
  by_cases h3 : t.op = 3
  · simp [h3]
    rw [Bool.eq_iff_iff]; simp
  rw [if_neg h3, if_neg h3]
  by_cases hn : t.name = []
  · rw [if_neg (by simp [hn]), hn]
    by_cases h12 : t.op = 1 ∨ t.op = 2
    · rw [if_pos h12, if_pos (by omega)]
      rw [Bool.eq_iff_iff]; simp
    rw [if_neg h12, if_neg (show ¬ (t.op = 1 ∨ t.op = 2 ∨ t.op = 3) by omega)]
    by_cases h4 : t.op = 4
    · rw [if_pos h4, if_pos h4]
      rw [Bool.eq_iff_iff]; simp
      omega
    rw [if_neg h4, if_neg h4]
    by_cases h567 : t.op = 5 ∨ t.op = 6 ∨ t.op = 7
    · rw [if_pos h567, if_pos h567]
      rw [Bool.eq_iff_iff]; simp
      omega
    rw [if_neg h567, if_neg h567]
    by_cases h89 : t.op = 8 ∨ t.op = 9
    · rw [if_pos h89, if_pos h89]
      rw [Bool.eq_iff_iff]; simp
      omega
    rw [if_neg h89, if_neg h89]
    by_cases h10 : t.op = 10
    · rw [if_pos h10, if_pos h10]
      rw [Bool.eq_iff_iff]; simp
      omega
    rw [if_neg h10, if_neg h10]
    simp
  · rw [if_pos hn]
    have : (t.name == []) = false := by simpa using hn
    rw [this, Bool.and_false]
theorem rowL_len_pos (t : Tree) : 1 ≤ (rowT t).length := by
  cases t; simp [rowT]
mutual
theorem validT_eq : ∀ (lv : Nat) (t : Tree) (left : Nat), validT lv t left = if (rowT t).all rightB = true ∧ (rowT t).length ≤ left ∧ levT t ≤ lv then some (left - (rowT t).length) else none
  | lv, .mk op name kids, left => by
    have ih := validL_eq (lv - 1) kids (left - 1)
    simp only [validT, ih]
    by_cases h : lv = 0 ∨ left = 0 ∨ rightB (.mk op name kids) = false
    · rw [if_pos h, if_neg]
      simp only [rowT, levT, List.all_cons, List.length_cons, Bool.and_eq_true]
      rcases h with h | h | h
      · omega
      · omega
      · rw [h]; simp
    · rw [if_neg h]
      simp only [not_or] at h
      obtain ⟨h1, h2, h3⟩ := h
      have h3' : rightB (.mk op name kids) = true := by simpa using h3
      simp only [rowT, levT, List.all_cons, List.length_cons, h3', Bool.true_and]
      by_cases h4 : (rowL kids).all rightB = true ∧ (rowL kids).length ≤ left - 1 ∧ (kids = [] ∨ levL kids ≤ lv - 1)
      · rw [if_pos h4, if_pos]
        · congr 1; omega
        · refine ⟨h4.1, by omega, ?_⟩
          rcases h4.2.2 with h5 | h5
          · subst h5; simp only [levL]; omega
          · omega
      · rw [if_neg h4, if_neg]
        intro h5
        exact h4 ⟨h5.1, by omega, .inr (by omega)⟩
theorem validL_eq : ∀ (lv : Nat) (ts : List Tree) (left : Nat), validL lv ts left = if (rowL ts).all rightB = true ∧ (rowL ts).length ≤ left ∧ (ts = [] ∨ levL ts ≤ lv) then some (left - (rowL ts).length) else none
  | lv, [], left => by simp [validL, rowL]
  | lv, t :: ts, left => by
    have ih1 := validT_eq lv t left
    simp only [validL, ih1]
    by_cases h : (rowT t).all rightB = true ∧ (rowT t).length ≤ left ∧ levT t ≤ lv
    · rw [if_pos h]
      simp only [validL_eq lv ts (left - (rowT t).length)]
      simp only [rowL, levL, List.all_append, List.length_append, h.1, Bool.true_and]
      by_cases h4 : (rowL ts).all rightB = true ∧ (rowL ts).length ≤ left - (rowT t).length ∧ (ts = [] ∨ levL ts ≤ lv)
      · rw [if_pos h4, if_pos]
        · congr 1; omega
        · refine ⟨h4.1, by omega, .inr ?_⟩
          rcases h4.2.2 with h5 | h5
          · subst h5; simp only [levL]; omega
          · omega
      · rw [if_neg h4, if_neg]
        intro h5
        have h6 := h5.2.2
        simp only [reduceCtorEq, false_or] at h6
        exact h4 ⟨h5.1, by omega, .inr (by omega)⟩
    · rw [if_neg h]
      simp only
      rw [if_neg]
      intro h5
      simp only [rowL, levL, List.all_append, List.length_append, Bool.and_eq_true, reduceCtorEq, false_or] at h5
      exact h ⟨h5.1.1, by omega, by omega⟩
end
theorem refValid_eq (t : Tree) : refValid t = validB t := by
  unfold validB refValid
  rw [validT_eq]
  have he : (rowT t).all oneB = (rowT t).all rightB := by
    congr 1; funext x; exact oneB_right x
  rw [he]
  by_cases h : (rowT t).all rightB = true ∧ (rowT t).length ≤ 1000 ∧ levT t ≤ 64
  · rw [if_pos h]; simp [h.1, h.2.1, h.2.2]
  · rw [if_neg h]
    cases h1 : (rowT t).all rightB with
    | false => simp
    | true =>
      simp only [h1, true_and, not_and] at h
      by_cases h2 : (rowT t).length ≤ 1000
      · have := h h2; simp [this]
      · simp [h2]
end Fm

