import Derived.Test.YtkgllhkhdjodeaaGreatSpec9
set_option linter.unusedSimpArgs false
set_option linter.unusedVariables false
namespace Fm
open Go Go.Eng
theorem rskip_ge {T : List Tk} {r : RS} {s : List UInt8} : r.1 ≤ (rskip T r s).1.1 := by
  unfold rskip; split <;> simp
/-- The reader goes forward. -/
theorem rp_ge {T : List Tk} : ∀ (n : Nat) (nt : RN) (r : RS) (q : Tree × RS), rp T n nt r = some q → r.1 ≤ q.2.1 := by
  intro n
  induction n with
  | zero => intro nt r q h; simp [rp] at h
  | succ n ih =>
    intro nt r q h
    cases nt with
    | choice =>
      rw [rp] at h
      obtain ⟨q1, h1, h⟩ := Option.bind_eq_some_iff.1 h
      have g1 := ih _ _ _ h1
      obtain ⟨q2, h2, h⟩ := Option.bind_eq_some_iff.1 h
      have g2 : q1.2.1 ≤ q2.2.1 := by
        split at h2
        · obtain ⟨q3, h3, h2⟩ := Option.bind_eq_some_iff.1 h2
          have g3 := ih _ _ _ h3
          injection h2 with h2; subst h2
          exact Nat.le_trans rskip_ge g3
        · injection h2 with h2; subst h2; exact Nat.le_refl _
      split at h
      · obtain ⟨q3, h3, h⟩ := Option.bind_eq_some_iff.1 h
        have g3 := Nat.le_trans rskip_ge (ih _ _ _ h3)
        split at h
        · obtain ⟨q4, h4, h⟩ := Option.bind_eq_some_iff.1 h
          have g4 := Nat.le_trans rskip_ge (ih _ _ _ h4)
          injection h with h; subst h
          exact Nat.le_trans g1 (Nat.le_trans g2 (Nat.le_trans g3 g4))
        · injection h with h; subst h; exact Nat.le_trans g1 (Nat.le_trans g2 g3)
      · injection h with h; subst h; exact Nat.le_trans g1 g2
    | implies =>
      rw [rp] at h
      obtain ⟨q1, h1, h⟩ := Option.bind_eq_some_iff.1 h
      have g1 := ih _ _ _ h1
      split at h
      · obtain ⟨q3, h3, h⟩ := Option.bind_eq_some_iff.1 h
        have g3 := Nat.le_trans rskip_ge (ih _ _ _ h3)
        injection h with h; subst h; exact Nat.le_trans g1 g3
      · injection h with h; subst h; exact g1
    | row i =>
      rw [rp] at h
      split at h
      · exact ih _ _ _ h
      · obtain ⟨q1, h1, h⟩ := Option.bind_eq_some_iff.1 h
        exact Nat.le_trans (ih _ _ _ h1) (ih _ _ _ h)
    | rest i acc =>
      rw [rp] at h
      split at h
      · obtain ⟨q1, h1, h⟩ := Option.bind_eq_some_iff.1 h
        exact Nat.le_trans rskip_ge (Nat.le_trans (ih _ _ _ h1) (ih _ _ _ h))
      · injection h with h; subst h; exact Nat.le_refl _
    | least =>
      rw [rp] at h
      split at h
      · injection h with h; subst h; exact Nat.le_refl _
      split at h
      · obtain ⟨q1, h1, h⟩ := Option.bind_eq_some_iff.1 h
        have g1 := ih _ _ _ h1
        injection h with h; subst h
        exact Nat.le_trans (Nat.le_succ _) g1
      split at h
      · obtain ⟨q1, h1, h⟩ := Option.bind_eq_some_iff.1 h
        have g1 := Nat.le_trans (Nat.le_succ _) (ih _ _ _ h1)
        split at h
        · injection h with h; subst h; exact Nat.le_trans g1 rskip_ge
        · injection h with h; subst h; exact g1
      split at h
      · injection h with h; subst h; exact Nat.le_succ _
      split at h
      · injection h with h; subst h; exact Nat.le_succ _
      split at h
      · injection h with h; subst h; exact Nat.le_succ _
      · injection h with h; subst h; exact Nat.le_refl _
end Fm

