import Derived.Test.YtkgllhkhdjodeaaGreatSpec2
set_option linter.unusedSimpArgs false
set_option linter.unusedVariables false
namespace Fm
open Go Go.Eng
def rank : NT → Nat
  | .choice => 9 | .same => 8 | .implies => 7 | .row i => 3 + (3 - i) | .rest _ _ => 1 | .not => 2 | .least => 1
theorem takes_word {text wd s x : List UInt8} {at_ a : Nat} (h : takes text at_ wd s = .yes a x) : wd = s := by
  unfold takes at h
  split at h
  · assumption
  · cases h
theorem takes_lt {text wd s x : List UInt8} {at_ a : Nat} (hle : at_ + wd.length ≤ text.length) (hs : 1 ≤ s.length) (h : takes text at_ wd s = .yes a x) : at_ + 1 ≤ a ∧ a + x.length ≤ text.length := by
  have h1 := takes_le hle h
  have h2 := takes_word h
  subst h2
  exact ⟨by omega, h1.2⟩
theorem bindP_some {r : Option PR} {f} (hr : ∃ q, r = some q) (hf : ∀ t a x, r = some (.ok t a x) → ∃ q, f t a x = some q) : ∃ q, bindP r f = some q := by
  obtain ⟨q, hq⟩ := hr
  subst hq
  cases q with
  | ok t a x => exact hf t a x rfl
  | bad a => exact ⟨_, rfl⟩
theorem bindT_some {r : TR} {no : Option PR} {f} (hn : ∃ q, no = some q) (hf : ∀ a x, r = .yes a x → ∃ q, f a x = some q) : ∃ q, bindT r no f = some q := by
  cases r with
  | no => exact hn
  | yes a x => exact hf a x rfl
  | bad a => exact ⟨_, rfl⟩
theorem rowSign_len (i : Nat) : (rowSign i).length = 1 := by
  unfold rowSign; split; rfl; split <;> rfl
/-- Enough fuel. -/
theorem parse_total {text : List UInt8} : ∀ (n : Nat) (nt : NT) (a : Nat) (x : List UInt8), a + x.length ≤ text.length → 12 * (text.length - a) + rank nt ≤ n → ∃ r, parse text n nt a x = some r := by
  intro n
  induction n with
  | zero => intro nt a x _ h; cases nt <;> simp [rank] at h
  | succ n ih =>
    intro nt a x hle hn
    cases nt with
    | choice =>
      simp only [rank] at hn
      simp only [parse]
      refine bindP_some (ih _ _ _ hle (by simp only [rank]; omega)) fun t1 a1 x1 h1 => ?_
      have g1 := parse_le _ _ _ _ _ _ _ hle h1
      refine bindT_some ⟨_, rfl⟩ fun a2 x2 h2 => ?_
      have g2 := takes_lt g1.2 (by simp) h2
      refine bindP_some (ih _ _ _ g2.2 (by simp only [rank]; omega)) fun t2 a3 x3 h3 => ?_
      have g3 := parse_le _ _ _ _ _ _ _ g2.2 h3
      refine bindT_some ⟨_, rfl⟩ fun a4 x4 h4 => ?_
      have g4 := takes_lt g3.2 (by simp) h4
      exact bindP_some (ih _ _ _ g4.2 (by simp only [rank]; omega)) fun t3 a5 x5 h5 => ⟨_, rfl⟩
    | same =>
      simp only [rank] at hn
      simp only [parse]
      refine bindP_some (ih _ _ _ hle (by simp only [rank]; omega)) fun t1 a1 x1 h1 => ?_
      have g1 := parse_le _ _ _ _ _ _ _ hle h1
      refine bindT_some ⟨_, rfl⟩ fun a2 x2 h2 => ?_
      have g2 := takes_lt g1.2 (by simp) h2
      exact bindP_some (ih _ _ _ g2.2 (by simp only [rank]; omega)) fun t2 a3 x3 h3 => ⟨_, rfl⟩
    | implies =>
      simp only [rank] at hn
      simp only [parse]
      refine bindP_some (ih _ _ _ hle (by simp only [rank]; omega)) fun t1 a1 x1 h1 => ?_
      have g1 := parse_le _ _ _ _ _ _ _ hle h1
      refine bindT_some ⟨_, rfl⟩ fun a2 x2 h2 => ?_
      have g2 := takes_lt g1.2 (by simp) h2
      exact bindP_some (ih _ _ _ g2.2 (by simp only [rank]; omega)) fun t2 a3 x3 h3 => ⟨_, rfl⟩
    | row i =>
      simp only [rank] at hn
      simp only [parse]
      split
      · exact ih _ _ _ hle (by simp only [rank]; omega)
      · refine bindP_some (ih _ _ _ hle (by simp only [rank]; omega)) fun t1 a1 x1 h1 => ?_
        have g1 := parse_le _ _ _ _ _ _ _ hle h1
        exact ih _ _ _ g1.2 (by simp only [rank]; omega)
    | rest i acc =>
      simp only [rank] at hn
      simp only [parse]
      refine bindT_some ⟨_, rfl⟩ fun a2 x2 h2 => ?_
      have g2 := takes_lt hle (by rw [rowSign_len]; exact Nat.le_refl _) h2
      refine bindP_some (ih _ _ _ g2.2 (by simp only [rank]; omega)) fun t2 a3 x3 h3 => ?_
      have g3 := parse_le _ _ _ _ _ _ _ g2.2 h3
      exact ih _ _ _ g3.2 (by simp only [rank]; omega)
    | not =>
      simp only [rank] at hn
      simp only [parse]
      refine bindT_some (ih _ _ _ hle (by simp only [rank]; omega)) fun a2 x2 h2 => ?_
      have g2 := takes_lt hle (by simp) h2
      exact bindP_some (ih _ _ _ g2.2 (by simp only [rank]; omega)) fun t2 a3 x3 h3 => ⟨_, rfl⟩
    | least =>
      simp only [rank] at hn
      simp only [parse]
      refine bindT_some ?_ fun a2 x2 h2 => ?_
      · split
        · exact ⟨_, rfl⟩
        · split <;> exact ⟨_, rfl⟩
      · have g2 := takes_lt hle (by simp) h2
        refine bindP_some (ih _ _ _ g2.2 (by simp only [rank]; omega)) fun t2 a3 x3 h3 => ?_
        exact bindT_some ⟨_, rfl⟩ fun a4 x4 h4 => ⟨_, rfl⟩

def zeroTree : Tree := .mk 0 [] []
def fuel (text : List UInt8) : Nat := 12 * text.length + 9
/-- What Parse answers: the tree, where, the error. -/
def top (text : List UInt8) : Tree × Nat × Int :=
  if 65536 < text.length then (zeroTree, 65536, 5) else match next text 0 [] with
  | .bad a => (zeroTree, a, 4)
  | .ok a x => match parse text (fuel text) .choice a x with
    | none => (zeroTree, 0, 0)
    | some (.bad b) => (zeroTree, b, 4)
    | some (.ok t b y) => if y ≠ [] then (zeroTree, b, 4) else if validB t then (t, 0, 0) else (zeroTree, text.length, 5)
end Fm

