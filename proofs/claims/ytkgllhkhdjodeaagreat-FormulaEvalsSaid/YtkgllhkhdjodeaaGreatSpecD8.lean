import Derived.Test.YtkgllhkhdjodeaaGreatSpecD7
set_option linter.unusedSimpArgs false
set_option linter.unusedVariables false
/-! Features of a number; the set of an odd number of them. -/
namespace Dg
def featL (f : Nat) : List Nat := (List.range 24).filter (fun i => f.testBit i)
def parB (vs : List Nat) (c : Cf) : Bool := vs.foldl (fun b i => b != c i) false
def parT : List Nat → Bool → BT
  | [], b => .lf b
  | v :: vs, b => .nd v (parT vs b) (parT vs (!b))
theorem parT_ne : ∀ (vs : List Nat) (b : Bool), parT vs b ≠ parT vs (!b)
  | [], b => by cases b <;> simp [parT]
  | v :: vs, b => by
    simp only [parT, ne_eq, BT.nd.injEq, true_and, not_and]
    intro h
    exact absurd h (parT_ne vs b)
theorem parT_ok : ∀ (vs : List Nat) (b : Bool) (m : Nat), vs.Pairwise (· < ·) → (∀ v ∈ vs, m ≤ v ∧ v < 24) → (parT vs b).ok m
  | [], b, m, _, _ => trivial
  | v :: vs, b, m, hp, h => by
    have hv := h v (List.mem_cons_self ..)
    have hp' := List.pairwise_cons.1 hp
    have h' : ∀ u ∈ vs, v + 1 ≤ u ∧ u < 24 := fun u hu => ⟨hp'.1 u hu, (h u (List.mem_cons_of_mem _ hu)).2⟩
    exact ⟨hv.1, hv.2, parT_ne vs b, parT_ok vs b _ hp'.2 h', parT_ok vs (!b) _ hp'.2 h'⟩
theorem parT_ev : ∀ (vs : List Nat) (b : Bool) (c : Cf), (parT vs b).ev c = vs.foldl (fun b i => b != c i) b
  | [], b, c => rfl
  | v :: vs, b, c => by
    simp only [parT, BT.ev, List.foldl_cons, parT_ev vs]
    cases c v <;> cases b <;> rfl
theorem parT_paths : ∀ (vs : List Nat), pathsN (parT vs false) + pathsN (parT vs true) = 2 ^ vs.length ∧ (vs ≠ [] → pathsN (parT vs false) = pathsN (parT vs true))
  | [] => ⟨rfl, fun h => absurd rfl h⟩
  | v :: vs => by
    have ih := parT_paths vs
    simp only [parT, pathsN, Bool.not_false, Bool.not_true, List.length_cons, Nat.pow_succ]
    exact ⟨by omega, fun _ => by omega⟩
theorem parT_many {vs : List Nat} (h : vs ≠ []) : pathsN (parT vs false) = 2 ^ (vs.length - 1) := by
  obtain ⟨h1, h2⟩ := parT_paths vs
  have h2 := h2 h
  have e : 2 ^ vs.length = 2 ^ (vs.length - 1) * 2 := by
    rw [← Nat.pow_succ]
    congr 1
    have : vs.length ≠ 0 := fun e => h (List.eq_nil_of_length_eq_zero e)
    omega
  omega
theorem featL_sorted (f : Nat) : (featL f).Pairwise (· < ·) := List.Pairwise.filter _ List.pairwise_lt_range
theorem featL_lt {f v : Nat} (h : v ∈ featL f) : v < 24 := by
  unfold featL at h
  rw [List.mem_filter] at h
  exact List.mem_range.1 h.1
theorem featL_len (f : Nat) : (featL f).length ≤ 24 := by
  unfold featL
  exact Nat.le_trans (List.length_filter_le _ _) (by simp)
theorem par_is {f : Nat} {t : BT} (ht : t.ok 0) (he : ∀ c, t.ev c = parB (featL f) c) : t = parT (featL f) false :=
  BT.unique ht (parT_ok _ _ 0 (featL_sorted f) (fun v hv => ⟨Nat.zero_le _, featL_lt hv⟩)) (fun c => by rw [he, parT_ev]; rfl)
theorem parB_take {vs : List Nat} {i v : Nat} (h : vs[i]? = some v) (c : Cf) : parB (vs.take (i + 1)) c = (parB (vs.take i) c != c v) := by
  unfold parB
  rw [List.take_add_one, h]
  simp
end Dg
