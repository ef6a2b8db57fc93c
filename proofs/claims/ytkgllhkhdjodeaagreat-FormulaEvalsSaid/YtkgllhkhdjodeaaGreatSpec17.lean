import Derived.Test.YtkgllhkhdjodeaaGreatSpec16
set_option linter.unusedSimpArgs false
set_option linter.unusedVariables false
namespace Fm
open Go Go.Eng
/-! ### the reference's consequences -/
def aloneB (c out : List Int) (x : Int) : Bool := !out.contains x && c.all (fun m => m == x || out.contains (-m))
def stepL (c out : List Int) (x : Int) : List Int := if aloneB c out x then out ++ [x] else out
def passC (out c : List Int) : List Int := c.foldl (stepL c) out
def consPass (ls : List (List Int)) (out : List Int) : List Int := ls.foldl passC out
def consF : Nat → List (List Int) → List Int → Option (List Int)
  | 0, _, _ => none
  | n + 1, ls, out => if (consPass ls out).length = out.length then some (consPass ls out) else consF n ls (consPass ls out)
theorem step_pre {c out : List Int} {x : Int} : ∃ r, stepL c out x = out ++ r := by
  unfold stepL; split
  · exact ⟨[x], rfl⟩
  · exact ⟨[], by simp⟩
theorem fold_pre {c : List Int} : ∀ {xs out : List Int}, ∃ r, xs.foldl (stepL c) out = out ++ r
  | [], out => ⟨[], by simp⟩
  | x :: xs, out => by
    obtain ⟨r, hr⟩ := step_pre (c := c) (out := out) (x := x)
    obtain ⟨r2, hr2⟩ := fold_pre (c := c) (xs := xs) (out := stepL c out x)
    exact ⟨r ++ r2, by rw [List.foldl_cons, hr2, hr, List.append_assoc]⟩
theorem pass_pre : ∀ {ls : List (List Int)} {out : List Int}, ∃ r, consPass ls out = out ++ r
  | [], out => ⟨[], by simp [consPass]⟩
  | c :: cs, out => by
    obtain ⟨r, hr⟩ := fold_pre (c := c) (xs := c) (out := out)
    obtain ⟨r2, hr2⟩ := pass_pre (ls := cs) (out := passC out c)
    refine ⟨r ++ r2, ?_⟩
    rw [consPass, List.foldl_cons]
    show consPass cs (passC out c) = _
    rw [hr2]
    show (c.foldl (stepL c) out) ++ r2 = _
    rw [hr, List.append_assoc]
theorem fold_keeps {c : List Int} : ∀ {xs out : List Int}, (xs.foldl (stepL c) out).length = out.length → ∀ x ∈ xs, aloneB c out x = false
  | [], out, _, x, hx => by cases hx
  | y :: xs, out, h, x, hx => by
    rw [List.foldl_cons] at h
    obtain ⟨r2, hr2⟩ := fold_pre (c := c) (xs := xs) (out := stepL c out y)
    have hy : aloneB c out y = false := by
      cases hh : aloneB c out y with
      | false => rfl
      | true =>
        have : stepL c out y = out ++ [y] := by unfold stepL; rw [if_pos hh]
        rw [hr2, this] at h
        simp at h
    have he : stepL c out y = out := by unfold stepL; rw [hy]; rfl
    rw [he] at h
    rcases List.mem_cons.1 hx with e | hx
    · rw [e]; exact hy
    · exact fold_keeps h x hx
theorem pass_keep : ∀ {ls : List (List Int)} {out : List Int}, (consPass ls out).length = out.length → ∀ c ∈ ls, ∀ x ∈ c, aloneB c out x = false
  | [], out, _, c, hc => by cases hc
  | d :: cs, out, h, c, hc => by
    have h' : (consPass cs (passC out d)).length = out.length := h
    obtain ⟨r, hr⟩ := fold_pre (c := d) (xs := d) (out := out)
    obtain ⟨r2, hr2⟩ := pass_pre (ls := cs) (out := passC out d)
    have hr' : passC out d = out ++ r := hr
    have hl : (passC out d).length = out.length := by
      rw [hr2, List.length_append] at h'
      rw [hr', List.length_append] at h' ⊢
      omega
    have he : passC out d = out := by
      rw [hr', List.length_append] at hl
      have : r = [] := List.eq_nil_of_length_eq_zero (by omega)
      rw [hr', this, List.append_nil]
    rw [he] at h'
    rcases List.mem_cons.1 hc with e | hc
    · rw [e]; exact fold_keeps hl
    · exact pass_keep h' c hc
theorem fold_sound {ls : List (List Int)} {fixed c : List Int} (hc : c ∈ ls) : ∀ {xs out : List Int}, (∀ x ∈ xs, x ∈ c) → (∀ z ∈ out, Der ls fixed z) → ∀ z ∈ xs.foldl (stepL c) out, Der ls fixed z
  | [], out, _, h => h
  | x :: xs, out, hx, h => by
    rw [List.foldl_cons]
    refine fold_sound hc (fun y hy => hx y (List.mem_cons_of_mem _ hy)) ?_
    unfold stepL
    split
    · rename_i ha
      intro z hz
      rcases List.mem_append.1 hz with hz | hz
      · exact h z hz
      · simp only [List.mem_singleton] at hz
        subst hz
        simp only [aloneB, Bool.and_eq_true, List.all_eq_true, Bool.or_eq_true, beq_iff_eq, List.contains_iff_mem] at ha
        exact .unit hc (hx z (List.mem_cons_self ..)) (fun m hm hne => by
          rcases ha.2 m hm with h4 | h4
          · exact absurd h4 hne
          · exact h _ h4)
    · exact h
theorem pass_soundL {ls0 : List (List Int)} {fixed : List Int} : ∀ {ls : List (List Int)} {out : List Int}, (∀ c ∈ ls, c ∈ ls0) → (∀ z ∈ out, Der ls0 fixed z) → ∀ z ∈ consPass ls out, Der ls0 fixed z
  | [], out, _, h => h
  | c :: cs, out, hl, h => pass_soundL (ls := cs) (out := passC out c) (fun c' h' => hl c' (List.mem_cons_of_mem _ h')) (fold_sound (hl c (List.mem_cons_self ..)) (fun x hx => hx) h)
theorem cons_says {ls : List (List Int)} {fixed : List Int} : ∀ {n : Nat} {out o : List Int}, (∀ x ∈ fixed, x ∈ out) → (∀ z ∈ out, Der ls fixed z) → consF n ls out = some o → ∀ z, z ∈ o ↔ Der ls fixed z
  | 0, _, _, _, _, h => by simp [consF] at h
  | n + 1, out, o, hf, hs, h => by
    simp only [consF] at h
    have hs2 := pass_soundL (ls := ls) (fun c h => h) hs
    obtain ⟨r, hr⟩ := pass_pre (ls := ls) (out := out)
    split at h
    · rename_i hl
      injection h with h
      have hk := pass_keep hl
      have he : consPass ls out = out := by
        rw [hr, List.length_append] at hl
        have : r = [] := List.eq_nil_of_length_eq_zero (by omega)
        rw [hr, this, List.append_nil]
      rw [he] at h
      subst h
      intro z
      refine ⟨hs z, fun hz => ?_⟩
      induction hz with
      | fix h => exact hf _ h
      | @unit c x hc hx _ ih =>
        have := hk c hc x hx
        simp only [aloneB, Bool.and_eq_false_iff, Bool.not_eq_false', List.contains_iff_mem] at this
        rcases this with h1 | h1
        · exact h1
        · exfalso
          rw [List.all_eq_false] at h1
          obtain ⟨m, hm, h2⟩ := h1
          simp only [Bool.or_eq_true, beq_iff_eq, List.contains_iff_mem, not_or] at h2
          exact h2.2 (ih m hm h2.1)
    · exact cons_says (fun x hx => by rw [hr]; exact List.mem_append_left _ (hf x hx)) hs2 h
/-- The reference's conflict. -/
def conflictB (ls : List (List Int)) (out : List Int) : Bool := ls.any (·.isEmpty) || out.any (fun x => out.contains (-x))
theorem conflict_says {ls : List (List Int)} {fixed out : List Int} (h : ∀ z, z ∈ out ↔ Der ls fixed z) : conflictB ls out = true ↔ Conf ls fixed := by
  unfold conflictB Conf
  simp only [Bool.or_eq_true, List.any_eq_true, List.contains_iff_mem, List.isEmpty_iff]
  constructor
  · rintro (⟨c, h1, h2⟩ | ⟨x, h1, h2⟩)
    · subst h2; exact .inl h1
    · exact .inr ⟨x, (h x).1 h1, (h (-x)).1 h2⟩
  · rintro (h1 | ⟨x, h1, h2⟩)
    · exact .inl ⟨[], h1, rfl⟩
    · exact .inr ⟨x, (h x).2 h1, (h (-x)).2 h2⟩

/-! ### that they end -/
def Rg : List Int := (List.range 65).map fun (i : Nat) => (i : Int) - 32
theorem mem_Rg {x : Int} : x ∈ Rg ↔ -32 ≤ x ∧ x ≤ 32 := by
  unfold Rg
  simp only [List.mem_map, List.mem_range]
  constructor
  · rintro ⟨i, h1, h2⟩; omega
  · intro h; exact ⟨(x + 32).toNat, by omega, by omega⟩
def openC (p : Int → Bool) : Nat := (Rg.filter p).length
theorem filter_le {p q : Int → Bool} (h : ∀ z, q z = true → p z = true) (l : List Int) : (l.filter q).length ≤ (l.filter p).length := by
  induction l with
  | nil => simp
  | cons a l ih =>
    by_cases hq : q a = true
    · simp [List.filter_cons, hq, h a hq]; exact ih
    · by_cases hp : p a = true
      · simp [List.filter_cons, hq, hp]; omega
      · simp [List.filter_cons, hq, hp]; exact ih
theorem filter_lt {p q : Int → Bool} (h : ∀ z, q z = true → p z = true) {x : Int} (hp : p x = true) (hq : q x = false) : ∀ {l : List Int}, x ∈ l → (l.filter q).length < (l.filter p).length
  | a :: l, hx => by
    rcases List.mem_cons.1 hx with e | hx
    · subst e
      have := filter_le h l
      simp [List.filter_cons, hp, hq]; omega
    · have ih := filter_lt h hp hq hx
      by_cases hqa : q a = true
      · simp [List.filter_cons, hqa, h a hqa]; exact ih
      · by_cases hpa : p a = true
        · simp [List.filter_cons, hqa, hpa]; omega
        · simp [List.filter_cons, hqa, hpa]; exact ih
theorem openC_le (p : Int → Bool) : openC p ≤ 65 := by
  unfold openC
  exact Nat.le_trans (List.length_filter_le _ _) (by simp [Rg])
def openL (out : List Int) : Nat := openC fun z => !out.contains z
theorem openL_app {out r : List Int} : openL (out ++ r) ≤ openL out := filter_le (fun z h => by simp at h ⊢; exact h.1) _
theorem openL_fold {c : List Int} : ∀ {xs out : List Int}, (∀ x ∈ xs, -32 ≤ x ∧ x ≤ 32) → (xs.foldl (stepL c) out).length ≠ out.length → openL (xs.foldl (stepL c) out) < openL out
  | [], out, _, h => absurd rfl h
  | x :: xs, out, hx, h => by
    rw [List.foldl_cons] at h ⊢
    by_cases ha : aloneB c out x = true
    · have he : stepL c out x = out ++ [x] := by unfold stepL; rw [if_pos ha]
      obtain ⟨r, hr⟩ := fold_pre (c := c) (xs := xs) (out := stepL c out x)
      rw [hr]
      refine Nat.lt_of_le_of_lt openL_app ?_
      rw [he]
      have hxo : out.contains x = false := by
        simp only [aloneB, Bool.and_eq_true, Bool.not_eq_true'] at ha
        exact ha.1
      exact filter_lt (fun z h => by simp at h ⊢; exact h.1) (x := x) (by simpa using hxo) (by simp) (mem_Rg.2 (hx x (List.mem_cons_self ..)))
    · have he : stepL c out x = out := by unfold stepL; rw [if_neg ha]
      rw [he] at h ⊢
      exact openL_fold (fun y hy => hx y (List.mem_cons_of_mem _ hy)) h
theorem openL_pass : ∀ {ls : List (List Int)} {out : List Int}, (∀ c ∈ ls, ∀ x ∈ c, -32 ≤ x ∧ x ≤ 32) → (consPass ls out).length ≠ out.length → openL (consPass ls out) < openL out
  | [], out, _, h => absurd rfl h
  | c :: cs, out, hl, h => by
    have e : consPass (c :: cs) out = consPass cs (passC out c) := rfl
    rw [e] at h ⊢
    obtain ⟨r, hr⟩ := pass_pre (ls := cs) (out := passC out c)
    by_cases h1 : (passC out c).length = out.length
    · obtain ⟨r2, hr2⟩ := fold_pre (c := c) (xs := c) (out := out)
      have hr2' : passC out c = out ++ r2 := hr2
      have : passC out c = out := by
        rw [hr2', List.length_append] at h1
        have : r2 = [] := List.eq_nil_of_length_eq_zero (by omega)
        rw [hr2', this, List.append_nil]
      rw [this] at h ⊢
      exact openL_pass (fun c' h' => hl c' (List.mem_cons_of_mem _ h')) h
    · rw [hr]
      exact Nat.lt_of_le_of_lt openL_app (openL_fold (hl c (List.mem_cons_self ..)) h1)
theorem cons_total {ls : List (List Int)} (hl : ∀ c ∈ ls, ∀ x ∈ c, -32 ≤ x ∧ x ≤ 32) : ∀ (n : Nat) (out : List Int), openL out < n → ∃ o, consF n ls out = some o
  | 0, out, h => by omega
  | n + 1, out, h => by
    simp only [consF]
    split
    · exact ⟨_, rfl⟩
    · rename_i hne
      exact cons_total hl n _ (by have := openL_pass hl hne; omega)
theorem cons_ends {ls : List (List Int)} (hl : ∀ c ∈ ls, ∀ x ∈ c, -32 ≤ x ∧ x ≤ 32) (out : List Int) : ∃ o, consF 66 ls out = some o := cons_total hl 66 out (by have := openC_le (fun z => !out.contains z); unfold openL; omega)
def openKn (k : Kn) : Nat := openC fun z => z != 0 && !hasK k z
theorem unit_open {k : Kn} {c : List Int} (hn : ∀ m ∈ c, m ≠ 0) {x : Int} (h : unitK k c = (x, true)) (hx : x ≠ 0) : x ∈ c ∧ hasK k x = false := by
  obtain ⟨i1, i2, i3⟩ := unitG_true hn h
  have hm : x ∈ c := by
    rcases i3 hx with h3 | h3
    · exact absurd h3 hx
    · exact h3
  exact ⟨hm, (i1 x hm).1⟩
theorem openKn_with {k : Kn} {x : Int} (hx : x ≠ 0) (hr : -32 ≤ x ∧ x ≤ 32) (hk : hasK k x = false) : openKn (withK k x) < openKn k := by
  unfold openKn openC
  refine filter_lt (x := x) (fun z h => ?_) ?_ ?_ (mem_Rg.2 hr)
  · simp only [Bool.and_eq_true, bne_iff_ne, Bool.not_eq_true'] at h ⊢
    rw [hasK_with hx h.1] at h
    simp at h
    exact ⟨h.1, h.2.2⟩
  · simp [hx, hk]
  · rw [hasK_with hx hx]; simp
theorem openKn_pass : ∀ {ls : List (List Int)} {k k' : Kn} {ag b : Bool}, (∀ c ∈ ls, ∀ x ∈ c, x ≠ 0 ∧ -32 ≤ x ∧ x ≤ 32) → passK ls k ag = .inr (k', b) → openKn k' ≤ openKn k ∧ (b = true → ag = true ∨ openKn k' < openKn k)
  | [], k, k', ag, b, _, h => by
    simp only [passK, Sum.inr.injEq, Prod.mk.injEq] at h
    rw [← h.1, ← h.2]; exact ⟨Nat.le_refl _, fun h => .inl h⟩
  | c :: cs, k, k', ag, b, hl, h => by
    have hl' := fun c' h' => hl c' (List.mem_cons_of_mem _ h')
    simp only [passK] at h
    split at h
    · cases h
    split at h
    · cases h
    split at h
    · rename_i h1 h2
      have hx0 : (unitK k c).1 ≠ 0 := fun h0 => h1 (by rw [h2, h0]; rfl)
      obtain ⟨hm, hk⟩ := unit_open (fun m hm => (hl c (List.mem_cons_self ..) m hm).1) (x := (unitK k c).1) (by rw [← h2]) hx0
      have h3 := openKn_with hx0 (hl c (List.mem_cons_self ..) _ hm).2 hk
      have h4 := (openKn_pass hl' h).1
      exact ⟨by omega, fun _ => .inr (by omega)⟩
    · exact openKn_pass hl' h
theorem closed_total {ls : List (List Int)} (hl : ∀ c ∈ ls, ∀ x ∈ c, x ≠ 0 ∧ -32 ≤ x ∧ x ≤ 32) : ∀ (n : Nat) (k : Kn), openKn k < n → ∃ r, closedF n ls k = some r
  | 0, k, h => by omega
  | n + 1, k, h => by
    simp only [closedF]
    split
    · exact ⟨_, rfl⟩
    · rename_i k' ag h1
      split
      · rename_i hag
        have := (openKn_pass hl h1).2 hag
        refine closed_total hl n k' ?_
        rcases this with h2 | h2
        · cases h2
        · omega
      · exact ⟨_, rfl⟩
theorem openKn_le (k : Kn) : openKn k ≤ 64 := by
  unfold openKn openC
  have h1 : (Rg.filter fun z => z != 0 && !hasK k z).length ≤ (Rg.filter fun z => z != 0).length := filter_le (fun z h => by simp at h ⊢; exact h.1) _
  have h2 : (Rg.filter fun z => z != 0).length = 64 := by decide
  omega
theorem closed_ends {ls : List (List Int)} (hl : ∀ c ∈ ls, ∀ x ∈ c, x ≠ 0 ∧ -32 ≤ x ∧ x ≤ 32) (k : Kn) : ∃ r, closedF 65 ls k = some r := closed_total hl 65 k (by have := openKn_le k; omega)
/-- The two answer alike. -/
theorem closed_conflict {ls : List (List Int)} {fixed out : List Int} {k' : Kn} {ok : Bool} {n f : Nat} (hl : ∀ c ∈ ls, ∀ x ∈ c, x ≠ 0) (hf : ∀ x ∈ fixed, x ≠ 0) (h1 : closedF f ls (fixed.foldl withK (0, 0)) = some (k', ok)) (h2 : consF n ls fixed = some out) :
    conflictB ls out = !ok ∧ (ok = true → ∀ z : Int, z ≠ 0 → hasK k' z = out.contains z) := by
  have hs := closed_says hl hf (fixed := fixed) (fun x hx => by rw [hasK_fold (hf x hx) hf]; simp [hx]) (fun z hz h => by
    rw [hasK_fold hz hf, hasK_zero, Bool.or_false, decide_eq_true_eq] at h
    exact .fix h) h1
  have hc := cons_says (fun x hx => hx) (fun z hz => .fix hz) h2
  have hcf := conflict_says hc
  cases ok with
  | false => exact ⟨hcf.2 (hs.1 rfl), fun h => by cases h⟩
  | true =>
    obtain ⟨h3, h4⟩ := hs.2 rfl
    refine ⟨?_, fun _ z hz => ?_⟩
    · cases hb : conflictB ls out with
      | false => rfl
      | true => exact absurd (hcf.1 hb) h3
    · rw [Bool.eq_iff_iff, h4 z hz, List.contains_iff_mem, hc z]
end Fm

