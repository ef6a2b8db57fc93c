import Derived.Test.YtkgllhkhdjodeaaGreatSpec5
set_option linter.unusedSimpArgs false
set_option linter.unusedVariables false
namespace Fm
open Go Go.Eng
/-! ### consequences -/
/-- What follows from clauses and literals. -/
inductive Der (ls : List (List Int)) (fixed : List Int) : Int → Prop
  | fix {x : Int} (h : x ∈ fixed) : Der ls fixed x
  | unit {c : List Int} {x : Int} (hc : c ∈ ls) (hx : x ∈ c) (h : ∀ m ∈ c, m ≠ x → Der ls fixed (-m)) : Der ls fixed x
/-- There is a conflict. -/
def Conf (ls : List (List Int)) (fixed : List Int) : Prop := [] ∈ ls ∨ ∃ x, Der ls fixed x ∧ Der ls fixed (-x)

/-! the program's sets of literals -/
theorem hasK_with {k : Kn} {l z : Int} (hl : l ≠ 0) (hz : z ≠ 0) : hasK (withK k l) z = (decide (z = l) || hasK k z) := by
  unfold hasK withK
  by_cases h1 : 0 < l
  · rw [if_pos h1]
    by_cases h2 : 0 < z
    · rw [if_pos h2, if_pos h2]
      simp only [Nat.testBit_or, Nat.testBit_two_pow]
      rw [Bool.or_comm]
      congr 1
      rw [Bool.eq_iff_iff]; simp; omega
    · rw [if_neg h2, if_neg h2]
      have : ¬ z = l := by omega
      simp [this]
  · rw [if_neg h1]
    by_cases h2 : 0 < z
    · rw [if_pos h2, if_pos h2]
      have : ¬ z = l := by omega
      simp [this]
    · rw [if_neg h2, if_neg h2]
      simp only [Nat.testBit_or, Nat.testBit_two_pow]
      rw [Bool.or_comm]
      congr 1
      rw [Bool.eq_iff_iff]; simp; omega
theorem hasK_zero {z : Int} : hasK (0, 0) z = false := by unfold hasK; split <;> simp
theorem hasK_fold {z : Int} (hz : z ≠ 0) : ∀ {l : List Int} {k : Kn}, (∀ x ∈ l, x ≠ 0) → hasK (l.foldl withK k) z = (decide (z ∈ l) || hasK k z)
  | [], k, _ => by simp
  | x :: r, k, h => by
    rw [List.foldl_cons, hasK_fold hz (fun y hy => h y (List.mem_cons_of_mem _ hy)), hasK_with (h x (List.mem_cons_self ..)) hz]
    rw [Bool.eq_iff_iff]; simp; constructor
    · rintro (h1 | h1 | h1)
      · exact .inl (.inr h1)
      · exact .inl (.inl h1)
      · exact .inr h1
    · rintro ((h1 | h1) | h1)
      · exact .inr (.inl h1)
      · exact .inl h1
      · exact .inr (.inr h1)
theorem clash_iff {k : Kn} : clash k = true ↔ ∃ z : Int, 0 < z ∧ hasK k z = true ∧ hasK k (-z) = true := by
  unfold clash
  constructor
  · intro h
    have h1 : k.1 &&& k.2 ≠ 0 := by simpa using h
    obtain ⟨j, hj⟩ := Nat.exists_testBit_of_ne_zero h1
    rw [Nat.testBit_and, Bool.and_eq_true] at hj
    refine ⟨(j : Int) + 1, by omega, ?_, ?_⟩
    · unfold hasK; rw [if_pos (by omega), show ((j : Int) + 1 - 1).toNat = j by omega]; exact hj.1
    · unfold hasK; rw [if_neg (by omega), show (-(-((j : Int) + 1)) - 1).toNat = j by omega]; exact hj.2
  · rintro ⟨z, hz, h1, h2⟩
    unfold hasK at h1 h2
    rw [if_pos hz] at h1
    rw [if_neg (by omega)] at h2
    rw [show (- -z - 1).toNat = (z - 1).toNat by omega] at h2
    have h3 : (k.1 &&& k.2).testBit (z - 1).toNat = true := by rw [Nat.testBit_and, h1, h2]; rfl
    have h4 : k.1 &&& k.2 ≠ 0 := by intro h0; rw [h0] at h3; simp at h3
    simpa using h4

/-- What unit says: a literal that is open, all the others being false; 0: all are. -/
theorem unitG_true {k : Kn} : ∀ {c : List Int} {op x : Int}, (∀ m ∈ c, m ≠ 0) → unitG k op c = (x, true) → (∀ m ∈ c, hasK k m = false ∧ (hasK k (-m) = true ∨ m = x)) ∧ (op ≠ 0 → x = op) ∧ (x ≠ 0 → x = op ∨ x ∈ c)
  | [], op, x, _, h => by
    simp only [unitG, Prod.mk.injEq, and_true] at h
    subst h
    exact ⟨fun m hm => (by cases hm), fun _ => rfl, fun _ => .inl rfl⟩
  | l :: ls, op, x, h0, h => by
    have hl := h0 l (List.mem_cons_self ..)
    have hls := fun m hm => h0 m (List.mem_cons_of_mem _ hm)
    simp only [unitG] at h
    split at h
    · simp at h
    rename_i h1
    split at h
    · rename_i h2
      obtain ⟨i1, i2, i3⟩ := unitG_true hls h
      refine ⟨fun m hm => ?_, i2, fun hx => ?_⟩
      · rcases List.mem_cons.1 hm with e | hm
        · subst e
          refine ⟨by simpa using h1, ?_⟩
          simp only [Bool.or_eq_true, beq_iff_eq] at h2
          rcases h2 with h2 | h2
          · exact .inl h2
          · exact .inr (by rw [h2, i2 (by rw [← h2]; exact hl)])
        · exact i1 m hm
      · rcases i3 hx with h3 | h3
        · exact .inl h3
        · exact .inr (List.mem_cons_of_mem _ h3)
    rename_i h2
    split at h
    · simp at h
    rename_i h3
    have h3' : op = 0 := by simpa using h3
    obtain ⟨i1, i2, i3⟩ := unitG_true hls h
    refine ⟨fun m hm => ?_, fun h0 => absurd h3' h0, fun hx => ?_⟩
    · rcases List.mem_cons.1 hm with e | hm
      · subst e
        exact ⟨by simpa using h1, .inr (i2 hl).symm⟩
      · exact i1 m hm
    · exact .inr (by rw [i2 hl]; exact List.mem_cons_self ..)
/-- What it says otherwise: a literal is true, or two are open. -/
theorem unitG_false {k : Kn} : ∀ {c : List Int} {op x : Int}, (∀ m ∈ c, m ≠ 0) → unitG k op c = (x, false) → (∃ m ∈ c, hasK k m = true) ∨ (∃ m ∈ c, hasK k (-m) = false ∧ op ≠ 0 ∧ m ≠ op) ∨ (∃ m ∈ c, ∃ m' ∈ c, m ≠ m' ∧ hasK k (-m) = false ∧ hasK k (-m') = false)
  | [], op, x, _, h => by simp [unitG] at h
  | l :: ls, op, x, h0, h => by
    have hl := h0 l (List.mem_cons_self ..)
    have hls := fun m hm => h0 m (List.mem_cons_of_mem _ hm)
    simp only [unitG] at h
    split at h
    · rename_i h1
      exact .inl ⟨l, List.mem_cons_self .., h1⟩
    split at h
    · rcases unitG_false hls h with ⟨m, h1, h2⟩ | ⟨m, h1, h2⟩ | ⟨m, h1, m', h2, h3⟩
      · exact .inl ⟨m, List.mem_cons_of_mem _ h1, h2⟩
      · exact .inr (.inl ⟨m, List.mem_cons_of_mem _ h1, h2⟩)
      · exact .inr (.inr ⟨m, List.mem_cons_of_mem _ h1, m', List.mem_cons_of_mem _ h2, h3⟩)
    rename_i h2
    simp only [Bool.or_eq_true, beq_iff_eq, not_or, Bool.not_eq_true] at h2
    split at h
    · rename_i h3
      have h3' : op ≠ 0 := by simpa using h3
      exact .inr (.inl ⟨l, List.mem_cons_self .., h2.1, h3', h2.2⟩)
    · rcases unitG_false hls h with ⟨m, h1, h4⟩ | ⟨m, h1, h4, h5, h6⟩ | ⟨m, h1, m', h4, h5⟩
      · exact .inl ⟨m, List.mem_cons_of_mem _ h1, h4⟩
      · exact .inr (.inr ⟨m, List.mem_cons_of_mem _ h1, l, List.mem_cons_self .., h6, h4, h2.1⟩)
      · exact .inr (.inr ⟨m, List.mem_cons_of_mem _ h1, m', List.mem_cons_of_mem _ h4, h5⟩)
/-- Whatever the set has follows. -/
def SoundK (ls : List (List Int)) (fixed : List Int) (k : Kn) : Prop := ∀ z : Int, z ≠ 0 → hasK k z = true → Der ls fixed z
theorem SoundK.unit {ls : List (List Int)} {fixed : List Int} {k : Kn} {c : List Int} (h : SoundK ls fixed k) (hc : c ∈ ls) (hn : ∀ m ∈ c, m ≠ 0) {x : Int} (hu : unitK k c = (x, true)) : (x ≠ 0 → SoundK ls fixed (withK k x)) ∧ (x = 0 → Conf ls fixed) := by
  obtain ⟨i1, i2, i3⟩ := unitG_true hn hu
  refine ⟨fun hx z hz hh => ?_, fun hx => ?_⟩
  · rw [hasK_with hx hz] at hh
    simp only [Bool.or_eq_true, decide_eq_true_eq] at hh
    rcases hh with hh | hh
    · subst hh
      rcases i3 hx with h3 | h3
      · exact absurd h3 hx
      · exact .unit hc h3 (fun m hm hne => by
          rcases (i1 m hm).2 with h4 | h4
          · exact h _ (by have := hn m hm; omega) h4
          · exact absurd h4 hne)
    · exact h z hz hh
  · cases c with
    | nil => exact .inl hc
    | cons y r =>
      have hf : ∀ m ∈ y :: r, hasK k (-m) = true := fun m hm => by
        rcases (i1 m hm).2 with h4 | h4
        · exact h4
        · exact absurd (h4.trans hx) (hn m hm)
      have hy := List.mem_cons_self (a := y) (l := r)
      refine .inr ⟨y, .unit hc hy (fun m hm _ => h _ (by have := hn m hm; omega) (hf m hm)), h _ (by have := hn y hy; omega) (hf y hy)⟩
theorem SoundK.clash {ls : List (List Int)} {fixed : List Int} {k : Kn} (h : SoundK ls fixed k) (hc : clash k = true) : Conf ls fixed := by
  obtain ⟨z, hz, h1, h2⟩ := clash_iff.1 hc
  exact .inr ⟨z, h z (by omega) h1, h (-z) (by omega) h2⟩
theorem pass_sound {ls0 : List (List Int)} {fixed : List Int} : ∀ {ls : List (List Int)} {k : Kn} {ag : Bool}, (∀ c ∈ ls, c ∈ ls0) → (∀ c ∈ ls, ∀ m ∈ c, m ≠ 0) → SoundK ls0 fixed k →
    (∀ k', passK ls k ag = .inl k' → Conf ls0 fixed) ∧ (∀ k' b, passK ls k ag = .inr (k', b) → SoundK ls0 fixed k')
  | [], k, ag, _, _, hs => ⟨fun k' h => by simp [passK] at h, fun k' b h => by simp only [passK, Sum.inr.injEq, Prod.mk.injEq] at h; rw [← h.1]; exact hs⟩
  | c :: cs, k, ag, hl, hn, hs => by
    have hc := hl c (List.mem_cons_self ..)
    have hnc := hn c (List.mem_cons_self ..)
    have hl' := fun c' h => hl c' (List.mem_cons_of_mem _ h)
    have hn' := fun c' h => hn c' (List.mem_cons_of_mem _ h)
    simp only [passK]
    split
    · rename_i h1
      exact ⟨fun k' h => hs.clash h1, fun k' b h => by cases h⟩
    split
    · rename_i h1
      simp only [Bool.and_eq_true, beq_iff_eq] at h1
      exact ⟨fun k' h => (hs.unit hc hnc (x := 0) (by rw [← h1.2, ← h1.1])).2 rfl, fun k' b h => by cases h⟩
    split
    · rename_i h1 h2
      refine pass_sound hl' hn' ((hs.unit hc hnc (x := (unitK k c).1) (by rw [← h2])).1 ?_)
      intro h0; apply h1; rw [h2, h0]; rfl
    · exact pass_sound hl' hn' hs
/-- Nothing more is found. -/
theorem pass_done : ∀ {ls : List (List Int)} {k k' : Kn} {ag : Bool}, passK ls k ag = .inr (k', false) → ag = false ∧ k' = k ∧ ∀ c ∈ ls, (unitK k c).2 = false
  | [], k, k', ag, h => by
    simp only [passK, Sum.inr.injEq, Prod.mk.injEq] at h
    exact ⟨h.2, h.1.symm, fun c hc => by cases hc⟩
  | c :: cs, k, k', ag, h => by
    simp only [passK] at h
    split at h
    · cases h
    split at h
    · cases h
    split at h
    · have := (pass_done h).1; cases this
    · rename_i h3
      obtain ⟨h4, h5, h6⟩ := pass_done h
      refine ⟨h4, h5, fun c' hc' => ?_⟩
      rcases List.mem_cons.1 hc' with e | hc'
      · rw [e]; simpa using h3
      · exact h6 c' hc'
theorem pass_keeps : ∀ {ls : List (List Int)} {k k' : Kn} {ag b : Bool} {z : Int}, (∀ c ∈ ls, ∀ m ∈ c, m ≠ 0) → passK ls k ag = .inr (k', b) → z ≠ 0 → hasK k z = true → hasK k' z = true
  | [], k, k', ag, b, z, _, h, _, hk => by
    simp only [passK, Sum.inr.injEq, Prod.mk.injEq] at h
    rw [← h.1]; exact hk
  | c :: cs, k, k', ag, b, z, hn, h, hz, hk => by
    have hn' := fun c' h => hn c' (List.mem_cons_of_mem _ h)
    simp only [passK] at h
    split at h
    · cases h
    split at h
    · cases h
    split at h
    · rename_i h1 h2
      refine pass_keeps hn' h hz ?_
      rw [hasK_with (fun h0 => h1 (by rw [h2, h0]; rfl)) hz, hk, Bool.or_true]
    · exact pass_keeps hn' h hz hk
theorem closed_says {ls : List (List Int)} {fixed : List Int} (hn : ∀ c ∈ ls, ∀ m ∈ c, m ≠ 0) (hf : ∀ x ∈ fixed, x ≠ 0) : ∀ {f : Nat} {k k' : Kn} {ok : Bool}, (∀ x ∈ fixed, hasK k x = true) → SoundK ls fixed k → closedF f ls k = some (k', ok) →
    (ok = false → Conf ls fixed) ∧ (ok = true → ¬ Conf ls fixed ∧ ∀ z : Int, z ≠ 0 → (hasK k' z = true ↔ Der ls fixed z))
  | 0, k, k', ok, _, _, h => by simp [closedF] at h
  | f + 1, k, k', ok, hk, hs, h => by
    have hps := pass_sound (ag := false) (fun c h => h) hn hs
    simp only [closedF] at h
    split at h
    · rename_i k2 h2
      simp only [Option.some.injEq, Prod.mk.injEq] at h
      exact ⟨fun _ => hps.1 _ h2, fun h0 => by rw [← h.2] at h0; cases h0⟩
    · rename_i k2 ag h2
      have hs2 := hps.2 _ _ h2
      split at h
      · refine closed_says hn hf (fun x hx => ?_) hs2 h
        exact pass_keeps hn h2 (hf x hx) (hk x hx)
      · rename_i hag
        have hag' : ag = false := by simpa using hag
        subst hag'
        simp only [Option.some.injEq, Prod.mk.injEq] at h
        obtain ⟨h3, h4⟩ := h
        subst h3
        obtain ⟨_, e, hd⟩ := pass_done h2
        subst e
        refine ⟨fun h0 => hs2.clash (by rw [← h4] at h0; simpa using h0), fun h0 => ?_⟩
        have hncl : clash k2 = false := by rw [← h4] at h0; simpa using h0
        have hcl : ∀ z : Int, z ≠ 0 → hasK k2 z = true → hasK k2 (-z) = true → False := fun z hz h5 h6 => by
          have : clash k2 = true := by
            rw [clash_iff]
            by_cases hz0 : 0 < z
            · exact ⟨z, hz0, h5, h6⟩
            · exact ⟨-z, by omega, h6, by rw [Int.neg_neg]; exact h5⟩
          rw [this] at hncl; cases hncl
        have hder : ∀ z, Der ls fixed z → z ≠ 0 → hasK k2 z = true := by
          intro z hz
          induction hz with
          | fix h => intro _; exact hk _ h
          | @unit c x hc hx _ ih =>
            intro _
            have hothers : ∀ m ∈ c, m ≠ x → hasK k2 (-m) = true := fun m hm hne => ih m hm hne (by have := hn c hc m hm; omega)
            obtain ⟨y, hy⟩ : ∃ y, unitK k2 c = (y, false) := ⟨(unitK k2 c).1, by rw [← hd c hc]⟩
            rcases unitG_false (hn c hc) hy with ⟨m, h5, h6⟩ | ⟨m, _, _, h6, _⟩ | ⟨m, h5, m', h6, h7, h8, h9⟩
            · by_cases hm : m = x
              · rw [← hm]; exact h6
              · exact (hcl m (hn c hc m h5) h6 (hothers m h5 hm)).elim
            · exact absurd rfl h6
            · by_cases hm : m = x
              · have := hothers m' h6 (fun e => h7 (by rw [hm, e]))
                rw [this] at h9; cases h9
              · have := hothers m h5 hm
                rw [this] at h8; cases h8
        refine ⟨fun hconf => ?_, fun z hz => ⟨hs2 z hz, fun h => hder z h hz⟩⟩
        rcases hconf with h5 | ⟨x, h5, h6⟩
        · have := hd [] h5
          simp [unitK, unitG] at this
        · by_cases hx : x = 0
          · subst hx
            have hz : ∀ z, Der ls fixed z → z ≠ 0 := fun z hz => by
              cases hz with
              | fix h => exact hf _ h
              | unit hc hx _ => exact hn _ hc _ hx
            exact hz 0 h5 rfl
          · exact hcl x hx (hder x h5 hx) (hder (-x) h6 (by omega))
end Fm

