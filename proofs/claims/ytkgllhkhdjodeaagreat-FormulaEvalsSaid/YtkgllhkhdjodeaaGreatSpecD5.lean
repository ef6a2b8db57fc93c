import Derived.Test.YtkgllhkhdjodeaaGreatSpecD4
import Derived.Test.YtkgllhkhdjodeaaGreatSpec6
set_option linter.unusedSimpArgs false
set_option linter.unusedVariables false
/-! Clauses as sets. -/
namespace Dg
def litC (cf : Cf) (x : Int) : Bool := if 0 < x then cf (x - 1).toNat else !cf (-x - 1).toNat
def clauseB (c : List Int) (cf : Cf) : Bool := c.any (litC cf)
def onStep (p : Nat × Nat) (x : Int) : Nat × Nat := if 0 < x then (p.1, p.2 ||| 2 ^ (x - 1).toNat) else (p.1 ||| 2 ^ (-x - 1).toNat, p.2)
def onOff (c : List Int) : Nat × Nat := c.foldl onStep (0, 0)
theorem or_pow_testBit (a k j : Nat) : (a ||| 2 ^ k).testBit j = (a.testBit j || decide (j = k)) := by
  rw [Nat.testBit_or, Nat.testBit_two_pow]
  congr 1
  rw [Bool.eq_iff_iff]; simp; omega
theorem cubeB_on {on off k : Nat} (hk : k < 24) (cf : Cf) : cubeB (on ||| 2 ^ k) off 0 cf = (cubeB on off 0 cf && cf k) := by
  unfold cubeB
  rw [Bool.eq_iff_iff]
  simp only [List.all_eq_true, Bool.and_eq_true, List.mem_range, or_pow_testBit]
  constructor
  · intro h
    refine ⟨fun j hj => ?_, ?_⟩
    · have := h j hj
      revert this
      cases on.testBit j <;> cases cf j <;> cases off.testBit j <;> simp
    · have := h k hk
      revert this
      cases on.testBit k <;> cases cf k <;> simp
  · rintro ⟨h, hc⟩ j hj
    have := h j hj
    by_cases e : j = k
    · subst e
      revert this
      rw [hc]
      simp
    · simpa [e] using this
theorem cubeB_off {on off k : Nat} (hk : k < 24) (cf : Cf) : cubeB on (off ||| 2 ^ k) 0 cf = (cubeB on off 0 cf && !cf k) := by
  unfold cubeB
  rw [Bool.eq_iff_iff]
  simp only [List.all_eq_true, Bool.and_eq_true, List.mem_range, or_pow_testBit]
  constructor
  · intro h
    refine ⟨fun j hj => ?_, ?_⟩
    · have := h j hj
      revert this
      cases on.testBit j <;> cases cf j <;> cases off.testBit j <;> simp
    · have := h k hk
      revert this
      cases off.testBit k <;> cases cf k <;> simp
  · rintro ⟨h, hc⟩ j hj
    have := h j hj
    by_cases e : j = k
    · subst e
      revert this
      simp only [Bool.not_eq_true'] at hc
      rw [hc]
      simp
    · simpa [e] using this
theorem cubeB_fold (cf : Cf) : ∀ (c : List Int) (p : Nat × Nat), (∀ x ∈ c, x ≠ 0 ∧ -24 ≤ x ∧ x ≤ 24) → cubeB (c.foldl onStep p).1 (c.foldl onStep p).2 0 cf = (cubeB p.1 p.2 0 cf && c.all (fun x => !litC cf x))
  | [], p, _ => by simp
  | x :: c, p, h => by
    have hx := h x (List.mem_cons_self ..)
    rw [List.foldl_cons, cubeB_fold cf c _ (fun y hy => h y (List.mem_cons_of_mem _ hy)), List.all_cons]
    unfold onStep litC
    by_cases h0 : 0 < x
    · simp only [if_pos h0]
      rw [cubeB_off (by omega)]
      simp [Bool.and_assoc]
    · simp only [if_neg h0]
      rw [cubeB_on (by omega)]
      simp [Bool.and_assoc]
theorem clause_cube {c : List Int} (h : ∀ x ∈ c, x ≠ 0 ∧ -24 ≤ x ∧ x ≤ 24) (cf : Cf) : (!cubeB (onOff c).1 (onOff c).2 0 cf) = clauseB c cf := by
  unfold onOff clauseB
  rw [cubeB_fold cf c (0, 0) h]
  have e : cubeB 0 0 0 cf = true := by
    unfold cubeB
    rw [List.all_eq_true]
    intro j _
    simp
  rw [e, Bool.true_and, Bool.eq_iff_iff]
  simp only [Bool.not_eq_true', List.all_eq_false, List.any_eq_true]
  simp
theorem onStep_lt {p : Nat × Nat} {x : Int} (hp : p.1 < 2 ^ 24 ∧ p.2 < 2 ^ 24) (hx : x ≠ 0 ∧ -24 ≤ x ∧ x ≤ 24) : (onStep p x).1 < 2 ^ 24 ∧ (onStep p x).2 < 2 ^ 24 := by
  have key : ∀ k : Nat, k < 24 → (2 : Nat) ^ k < 2 ^ 24 := fun k hk => Nat.pow_lt_pow_right (by decide) hk
  unfold onStep
  by_cases h0 : 0 < x
  · rw [if_pos h0]; exact ⟨hp.1, Nat.or_lt_two_pow hp.2 (key _ (by omega))⟩
  · rw [if_neg h0]; exact ⟨Nat.or_lt_two_pow hp.1 (key _ (by omega)), hp.2⟩
theorem onOff_lt : ∀ {c : List Int} {p : Nat × Nat}, (∀ x ∈ c, x ≠ 0 ∧ -24 ≤ x ∧ x ≤ 24) → p.1 < 2 ^ 24 ∧ p.2 < 2 ^ 24 → (c.foldl onStep p).1 < 2 ^ 24 ∧ (c.foldl onStep p).2 < 2 ^ 24
  | [], p, _, hp => hp
  | x :: c, p, h, hp => onOff_lt (c := c) (fun y hy => h y (List.mem_cons_of_mem _ hy)) (onStep_lt hp (h x (List.mem_cons_self ..)))
theorem onOff_take {c : List Int} {i : Nat} {x : Int} (h : c[i]? = some x) : onOff (c.take (i + 1)) = onStep (onOff (c.take i)) x := by
  unfold onOff
  rw [List.take_add_one, h]
  simp
end Dg
