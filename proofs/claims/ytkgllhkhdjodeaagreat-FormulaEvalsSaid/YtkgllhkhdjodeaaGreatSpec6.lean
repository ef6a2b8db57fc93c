import Derived.Test.YtkgllhkhdjodeaaGreatSpec3
set_option linter.unusedSimpArgs false
set_option linter.unusedVariables false
namespace Fm
open Go Go.Eng
/-! ### a byte that begins no token -/
theorem blanks_dollar : ∀ (x : List UInt8), blanks (x ++ [36]) ≤ x.length
  | [] => by simp [blanks]
  | c :: r => by
    simp only [List.cons_append, blanks]
    split
    · have := blanks_dollar r; simp; omega
    · simp
theorem word_dollar : ∀ (x : List UInt8), (word (x ++ [36])).length ≤ x.length
  | [] => by simp [word, inWordB]
  | c :: r => by
    unfold word
    rw [List.cons_append]
    by_cases hc : inWordB c = true
    · rw [List.takeWhile_cons_of_pos hc]
      have := word_dollar r
      unfold word at this
      simp; omega
    · rw [List.takeWhile_cons_of_neg hc]; simp
theorem sign_dollar {x s : List UInt8} (hs : (36 : UInt8) ∉ s) (h : pre (x ++ [36]) s = true) : s.length ≤ x.length := by
  simp only [pre, Bool.and_eq_true, decide_eq_true_eq, beq_iff_eq] at h
  obtain ⟨h1, h2⟩ := h
  simp at h1
  by_cases hl : s.length ≤ x.length
  · exact hl
  · exfalso
    have he : s.length = x.length + 1 := by omega
    rw [he, List.take_of_length_le (by simp)] at h2
    exact hs (by rw [← h2]; simp)
theorem tok_dollar {x y : List UInt8} (h : tok (x ++ [36]) = some y) : y.length ≤ x.length ∧ y ≠ [] := by
  unfold tok at h
  rw [if_neg (by simp)] at h
  split at h
  · rename_i s hs
    injection h with h
    subst h
    have hm := List.mem_of_find?_eq_some hs
    have hp := List.find?_some hs
    refine ⟨sign_dollar (fun hh => ?_) hp, fun h0 => ?_⟩
    · have : ∀ s ∈ signs, (36 : UInt8) ∉ s := by decide
      exact this _ hm hh
    · subst h0
      exact absurd hm (by decide)
  · split at h
    · rename_i hw
      injection h with h
      subst h
      refine ⟨word_dollar x, fun h0 => ?_⟩
      rw [h0] at hw
      simp [isNameB] at hw
    · cases h
theorem next_dollar {x wd : List UInt8} {at_ : Nat} (hle : at_ + wd.length ≤ x.length) : (∀ a y, next (x ++ [36]) at_ wd = .ok a y → a + y.length ≤ x.length ∧ y ≠ []) ∧ (∀ a, next (x ++ [36]) at_ wd = .bad a → a ≤ x.length) := by
  have hb : blanks ((x ++ [36]).drop (at_ + wd.length)) ≤ x.length - (at_ + wd.length) := by
    rw [List.drop_append_of_le_length hle]
    have := blanks_dollar (x.drop (at_ + wd.length))
    simpa using this
  simp only [next]
  generalize hq : at_ + wd.length + blanks ((x ++ [36]).drop (at_ + wd.length)) = q
  have hql : q ≤ x.length := by omega
  refine ⟨fun a y h => ?_, fun a h => ?_⟩
  · split at h
    · rename_i z hz
      injection h with h1 h2
      subst h1; subst h2
      rw [List.drop_append_of_le_length hql] at hz
      have := tok_dollar hz
      simp at this
      exact ⟨by omega, this.2⟩
    · cases h
  · split at h
    · cases h
    · injection h with h
      omega
/-- What a token, or an error, may be, ahead of that byte. -/
def GoodR (X : Nat) : PR → Prop
  | .ok _ a y => a + y.length ≤ X ∧ y ≠ []
  | .bad a => a ≤ X
theorem takes_dollar {x wd s : List UInt8} {at_ : Nat} (hle : at_ + wd.length ≤ x.length) : (∀ a y, takes (x ++ [36]) at_ wd s = .yes a y → a + y.length ≤ x.length ∧ y ≠ []) ∧ (∀ a, takes (x ++ [36]) at_ wd s = .bad a → a ≤ x.length) := by
  have hn := next_dollar hle
  unfold takes
  split
  · split
    · rename_i a y h
      exact ⟨fun a' y' h' => by injection h' with h1 h2; subst h1; subst h2; exact hn.1 _ _ h, fun a' h' => (by cases h')⟩
    · rename_i a h
      exact ⟨fun a' y' h' => (by cases h'), fun a' h' => by injection h' with h1; subst h1; exact hn.2 _ h⟩
  · exact ⟨fun a' y' h' => (by cases h'), fun a' h' => (by cases h')⟩
theorem bindP_good {X : Nat} {r : Option PR} {f} {q : PR} (h : bindP r f = some q) (hr : ∀ p, r = some p → GoodR X p) (hf : ∀ t a y, a + y.length ≤ X ∧ y ≠ [] → f t a y = some q → GoodR X q) : GoodR X q := by
  rcases bindP_ok h with ⟨a, h1, h2⟩ | ⟨t, a, y, h1, h2⟩
  · subst h2; exact hr _ h1
  · exact hf t a y (hr _ h1) h2
theorem bindT_good {x wd s : List UInt8} {at_ : Nat} {no : Option PR} {f} {q : PR} (hle : at_ + wd.length ≤ x.length) (h : bindT (takes (x ++ [36]) at_ wd s) no f = some q) (hno : no = some q → GoodR x.length q) (hf : ∀ a y, a + y.length ≤ x.length ∧ y ≠ [] → f a y = some q → GoodR x.length q) : GoodR x.length q := by
  have ht := takes_dollar (s := s) hle
  rcases bindT_ok h with ⟨h1, h2⟩ | ⟨a, y, h1, h2⟩ | ⟨a, h1, h2⟩
  · exact hno h2
  · exact hf a y (ht.1 _ _ h1) h2
  · subst h2; exact ht.2 _ h1
theorem parse_dollar {x : List UInt8} : ∀ (n : Nat) (nt : NT) (a : Nat) (y : List UInt8) (q : PR), a + y.length ≤ x.length ∧ y ≠ [] → parse (x ++ [36]) n nt a y = some q → GoodR x.length q := by
  intro n
  induction n with
  | zero => intro nt a y q _ h; simp [parse] at h
  | succ n ih =>
    intro nt a y q hg h
    cases nt with
    | choice =>
      simp only [parse] at h
      refine bindP_good h (fun p hp => ih _ _ _ _ hg hp) fun t a1 y1 g1 h => ?_
      refine bindT_good g1.1 h (fun h => by injection h with h; subst h; exact g1) fun a2 y2 g2 h => ?_
      refine bindP_good h (fun p hp => ih _ _ _ _ g2 hp) fun t a3 y3 g3 h => ?_
      refine bindT_good g3.1 h (fun h => by injection h with h; subst h; exact Nat.le_trans (Nat.le_add_right _ _) g3.1) fun a4 y4 g4 h => ?_
      exact bindP_good h (fun p hp => ih _ _ _ _ g4 hp) fun t a5 y5 g5 h => by injection h with h; subst h; exact g5
    | same =>
      simp only [parse] at h
      refine bindP_good h (fun p hp => ih _ _ _ _ hg hp) fun t a1 y1 g1 h => ?_
      refine bindT_good g1.1 h (fun h => by injection h with h; subst h; exact g1) fun a2 y2 g2 h => ?_
      exact bindP_good h (fun p hp => ih _ _ _ _ g2 hp) fun t a3 y3 g3 h => by injection h with h; subst h; exact g3
    | implies =>
      simp only [parse] at h
      refine bindP_good h (fun p hp => ih _ _ _ _ hg hp) fun t a1 y1 g1 h => ?_
      refine bindT_good g1.1 h (fun h => by injection h with h; subst h; exact g1) fun a2 y2 g2 h => ?_
      exact bindP_good h (fun p hp => ih _ _ _ _ g2 hp) fun t a3 y3 g3 h => by injection h with h; subst h; exact g3
    | row i =>
      simp only [parse] at h
      split at h
      · exact ih _ _ _ _ hg h
      · exact bindP_good h (fun p hp => ih _ _ _ _ hg hp) fun t a1 y1 g1 h => ih _ _ _ _ g1 h
    | rest i acc =>
      simp only [parse] at h
      refine bindT_good hg.1 h (fun h => by injection h with h; subst h; exact hg) fun a2 y2 g2 h => ?_
      exact bindP_good h (fun p hp => ih _ _ _ _ g2 hp) fun t a3 y3 g3 h => ih _ _ _ _ g3 h
    | not =>
      simp only [parse] at h
      refine bindT_good hg.1 h (fun h => ih _ _ _ _ hg h) fun a2 y2 g2 h => ?_
      exact bindP_good h (fun p hp => ih _ _ _ _ g2 hp) fun t a3 y3 g3 h => by injection h with h; subst h; exact g3
    | least =>
      simp only [parse] at h
      refine bindT_good hg.1 h (fun h => ?_) fun a2 y2 g2 h => ?_
      · have hn := next_dollar hg.1
        split at h
        · injection h with h; subst h; exact Nat.le_trans (Nat.le_add_right _ _) hg.1
        · split at h
          · rename_i b hb
            injection h with h; subst h; exact hn.2 _ hb
          · rename_i b z hb
            injection h with h; subst h; exact hn.1 _ _ hb
      · refine bindP_good h (fun p hp => ih _ _ _ _ g2 hp) fun t a3 y3 g3 h => ?_
        exact bindT_good g3.1 h (fun h => by injection h with h; subst h; exact Nat.le_trans (Nat.le_add_right _ _) g3.1) fun a4 y4 g4 h => by injection h with h; subst h; exact g4
theorem top_dollar {x : List UInt8} (hx : x.length ≤ 65535) : ∃ a, a ≤ x.length ∧ top (x ++ [36]) = (zeroTree, a, 4) := by
  have hl : ¬ 65536 < (x ++ [36]).length := by simp; omega
  have hn := next_dollar (x := x) (wd := []) (at_ := 0) (by simp)
  unfold top
  rw [if_neg hl]
  cases h : next (x ++ [36]) 0 [] with
  | bad a => exact ⟨a, hn.2 _ h, rfl⟩
  | ok a y =>
    have g := hn.1 _ _ h
    obtain ⟨r, hr⟩ := parse_total (text := x ++ [36]) (fuel (x ++ [36])) .choice a y (by simp; omega) (by simp only [rank, fuel]; omega)
    have gr := parse_dollar _ _ _ _ _ g hr
    simp only [hr]
    cases r with
    | bad b => exact ⟨b, gr, rfl⟩
    | ok t b z =>
      simp only [GoodR] at gr
      simp only [ne_eq, gr.2, not_false_eq_true, if_true]
      exact ⟨b, by omega, rfl⟩
/-! ### a text of blanks and a 0 -/
theorem blanks_rep (k : Nat) (r : List UInt8) (h : blanks r = 0) : blanks (List.replicate k 32 ++ r) = k := by
  induction k with
  | zero => simpa using h
  | succ k ih => rw [List.replicate_succ, List.cons_append, blanks, if_pos rfl, ih]
theorem next_zero (k : Nat) : next (List.replicate k 32 ++ [48]) 0 [] = .ok k [48] := by
  simp only [next, List.length_nil, Nat.add_zero, List.drop_zero, Nat.zero_add, blanks_rep k [48] (by decide)]
  rw [List.drop_append_of_le_length (by simp), List.drop_of_length_le (by simp)]
  rfl
theorem next_end (k : Nat) : next (List.replicate k 32 ++ [48]) k [48] = .ok (k + 1) [] := by
  have hd : (List.replicate k (32 : UInt8) ++ [48]).drop (k + 1) = [] := List.drop_of_length_le (by simp)
  simp only [next, List.length_cons, List.length_nil, Nat.zero_add, hd, blanks, Nat.add_zero]
  rfl
theorem top_blank (k : Nat) (hk : k ≤ 65535) : top (List.replicate k 32 ++ [48]) = (.mk 1 [] [], 0, 0) := by
  have hl : ¬ 65536 < (List.replicate k (32 : UInt8) ++ [48]).length := by simp; omega
  unfold top
  rw [if_neg hl, next_zero]
  obtain ⟨m, hm⟩ : ∃ m, fuel (List.replicate k 32 ++ [48]) = m + 12 := ⟨fuel (List.replicate k 32 ++ [48]) - 12, by simp [fuel]; omega⟩
  have hp : parse (List.replicate k 32 ++ [48]) (m + 12) .choice k [48] = some (.ok (.mk 1 [] []) (k + 1) []) := by
    have t1 : ∀ s : List UInt8, s ≠ [48] → takes (List.replicate k 32 ++ [48]) k [48] s = .no := fun s hs => by simp [takes, Ne.symm hs]
    have t2 : ∀ s : List UInt8, s ≠ [] → takes (List.replicate k 32 ++ [48]) (k + 1) [] s = .no := fun s hs => by simp [takes, Ne.symm hs]
    have hle : ∀ n, parse (List.replicate k 32 ++ [48]) (n + 1) .least k [48] = some (.ok (.mk 1 [] []) (k + 1) []) := fun n => by
      simp only [parse, t1 [40] (by decide), bindT]
      rw [if_neg (by decide), next_end]
      rfl
    have hno : ∀ n, parse (List.replicate k 32 ++ [48]) (n + 2) .not k [48] = some (.ok (.mk 1 [] []) (k + 1) []) := fun n => by
      rw [parse, t1 [33] (by decide), bindT]; exact hle n
    have hre : ∀ n i, parse (List.replicate k 32 ++ [48]) (n + 1) (.rest i [.mk 1 [] []]) (k + 1) [] = some (.ok (.mk 1 [] []) (k + 1) []) := fun n i => by
      rw [parse, t2 (rowSign i) (by intro h0; have := rowSign_len i; rw [h0] at this; cases this), bindT]; rfl
    have h3 : ∀ n, parse (List.replicate k 32 ++ [48]) (n + 3) (.row 3) k [48] = some (.ok (.mk 1 [] []) (k + 1) []) := fun n => by
      rw [parse, if_pos (by decide)]; exact hno n
    have h2 : ∀ n, parse (List.replicate k 32 ++ [48]) (n + 4) (.row 2) k [48] = some (.ok (.mk 1 [] []) (k + 1) []) := fun n => by
      rw [parse, if_neg (by decide), h3 n]; exact hre _ _
    have h1 : ∀ n, parse (List.replicate k 32 ++ [48]) (n + 5) (.row 1) k [48] = some (.ok (.mk 1 [] []) (k + 1) []) := fun n => by
      rw [parse, if_neg (by decide), h2 n]; exact hre _ _
    have h0 : ∀ n, parse (List.replicate k 32 ++ [48]) (n + 6) (.row 0) k [48] = some (.ok (.mk 1 [] []) (k + 1) []) := fun n => by
      rw [parse, if_neg (by decide), h1 n]; exact hre _ _
    have hi : ∀ n, parse (List.replicate k 32 ++ [48]) (n + 7) .implies k [48] = some (.ok (.mk 1 [] []) (k + 1) []) := fun n => by
      rw [parse, h0 n]; simp only [bindP, t2 [61, 62] (by decide), bindT]
    have hs : ∀ n, parse (List.replicate k 32 ++ [48]) (n + 8) .same k [48] = some (.ok (.mk 1 [] []) (k + 1) []) := fun n => by
      rw [parse, hi n]; simp only [bindP, t2 [60, 61, 62] (by decide), bindT]
    rw [parse, hs (m + 3)]; simp only [bindP, t2 [63] (by decide), bindT]
  rw [hm]
  simp only [hp]
  rfl
theorem top_long {x : List UInt8} (h : 65536 < x.length) : top x = (zeroTree, 65536, 5) := by
  unfold top; rw [if_pos h]
end Fm

