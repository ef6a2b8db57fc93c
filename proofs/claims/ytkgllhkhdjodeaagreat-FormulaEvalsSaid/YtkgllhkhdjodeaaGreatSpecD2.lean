import Derived.Test.YtkgllhkhdjodeaaGreatSpecD1
set_option linter.unusedSimpArgs false
set_option linter.unusedVariables false
/-! A maker's nodes, and the places of a walk through it. -/
namespace Dg
/-- What the table of a list says of a node. -/
def KnowsL (l : List Dec) (f : Dec → Option Nat) : Prop := ∀ x p, f x = some p ↔ ∃ k, p = k + 2 ∧ l[k]? = some x
theorem KnowsL.nil : KnowsL [] (fun _ => none) := fun x p => by simp
theorem KnowsL.snoc {l : List Dec} {f : Dec → Option Nat} (h : KnowsL l f) (x : Dec) (hx : f x = none) : KnowsL (l ++ [x]) (fun y => if y = x then some (l.length + 2) else f y) := by
  intro y p
  by_cases he : y = x
  · subst he
    simp only [if_pos]
    constructor
    · intro e
      cases e
      exact ⟨l.length, rfl, by simp⟩
    · rintro ⟨k, rfl, hk⟩
      by_cases hl : k < l.length
      · rw [List.getElem?_append_left hl] at hk
        have := (h y (k + 2)).2 ⟨k, rfl, hk⟩
        rw [hx] at this; cases this
      · have := (List.getElem?_eq_some_iff.1 hk).1
        simp at this
        have e : k = l.length := by omega
        rw [e]
  · simp only [if_neg he]
    rw [h y p]
    constructor
    · rintro ⟨k, rfl, hk⟩
      exact ⟨k, rfl, by rw [List.getElem?_append_left (List.getElem?_eq_some_iff.1 hk).1]; exact hk⟩
    · rintro ⟨k, rfl, hk⟩
      by_cases hl : k < l.length
      · exact ⟨k, rfl, by rw [List.getElem?_append_left hl] at hk; exact hk⟩
      · have := (List.getElem?_eq_some_iff.1 hk).1
        simp at this
        have e : k = l.length := by omega
        subst e
        simp at hk
        exact absurd hk.symm he
/-- What a node's making yields. -/
structure MadeN (l l' : List Dec) (p : Nat) (t : BT) : Prop where
  ismk : Mk l'
  pre : ∃ r, l' = l ++ r
  lt : p < l'.length + 2
  tree : trs l' p = t
theorem MadeN.len {l l' : List Dec} {p : Nat} {t : BT} (h : MadeN l l' p t) : l.length ≤ l'.length := by
  obtain ⟨r, e⟩ := h.pre
  rw [e]; simp
theorem MadeN.old {l l' : List Dec} {p q : Nat} {t : BT} (h : MadeN l l' p t) (hq : q < l.length + 2) : trs l' q = trs l q := by
  obtain ⟨r, e⟩ := h.pre
  rw [e, trs_append hq]
theorem MadeN.same {l : List Dec} (h : Mk l) {i p : Nat} (hp : p < l.length + 2) : MadeN l l p (mkN i (trs l p) (trs l p)) :=
  ⟨h, ⟨[], by simp⟩, hp, by rw [mkN_same]⟩
theorem MadeN.known {l : List Dec} {f : Dec → Option Nat} (h : Mk l) (hf : KnowsL l f) {i lo hi p : Nat} (hne : lo ≠ hi) (hlo : lo < l.length + 2) (hhi : hi < l.length + 2) (hp : f (i, lo, hi) = some p) : MadeN l l p (mkN i (trs l lo) (trs l hi)) := by
  obtain ⟨k, rfl, hk⟩ := (hf _ _).1 hp
  have hlt := (List.getElem?_eq_some_iff.1 hk).1
  refine ⟨h, ⟨[], by simp⟩, by omega, ?_⟩
  rw [h.at hk, mkN_ne (fun e => hne (h.inj hlo hhi e))]
theorem MadeN.new {l : List Dec} {f : Dec → Option Nat} (h : Mk l) (hf : KnowsL l f) {i lo hi : Nat} (hi24 : i < 24) (hne : lo ≠ hi) (hlo : lo < l.length + 2) (hhi : hi < l.length + 2) (hp : f (i, lo, hi) = none) : MadeN l (l ++ [(i, lo, hi)]) (l.length + 2) (mkN i (trs l lo) (trs l hi)) := by
  have hn : (i, lo, hi) ∉ l := by
    intro hm
    obtain ⟨k, hk⟩ := List.getElem?_of_mem hm
    have := (hf _ _).2 ⟨k, rfl, hk⟩
    rw [hp] at this; cases this
  refine ⟨h.snoc ⟨hi24, hlo, hhi, hne⟩ hn, ⟨_, rfl⟩, by simp, ?_⟩
  rw [trs_snoc_new, mkN_ne (fun e => hne (h.inj hlo hhi e))]
theorem MadeN.trans {l l' l'' : List Dec} {p q : Nat} {s t : BT} (h : MadeN l l' p s) (h' : MadeN l' l'' q t) : MadeN l l'' q t := by
  obtain ⟨r, e⟩ := h.pre
  obtain ⟨r', e'⟩ := h'.pre
  exact ⟨h'.ismk, ⟨r ++ r', by rw [e', e, List.append_assoc]⟩, h'.lt, h'.tree⟩
theorem MadeN.at0 {l : List Dec} (h : Mk l) {p : Nat} (hp : p < l.length + 2) : MadeN l l p (trs l p) := ⟨h, ⟨[], by simp⟩, hp, rfl⟩
/-- The places of a walk: which maker's places stand already in the new list, and where. -/
def PlaceOk (l o : List Dec) (f : Nat → Option Nat) : Prop := ∀ r p, r < l.length + 2 → (f r = some p ↔ p < o.length + 2 ∧ trs o p = trs l r)
theorem PlaceOk.nil {l : List Dec} (h : Mk l) : PlaceOk l [] (fun r => if r = 1 then some 1 else if r = 0 then some 0 else none) := by
  intro r p hr
  have z := trs_zero ([] : List Dec)
  have z' := trs_zero l
  by_cases h1 : r = 1
  · subst h1
    simp only [if_pos, z'.2, List.length_nil]
    constructor
    · intro e; cases e; exact ⟨by omega, z.2⟩
    · rintro ⟨hp, e⟩
      have : p = 1 := by
        rcases p with _ | _ | p
        · rw [z.1] at e; cases e
        · rfl
        · omega
      rw [this]
  · by_cases h0 : r = 0
    · subst h0
      simp only [if_pos, if_neg h1, z'.1, List.length_nil]
      constructor
      · intro e; cases e; exact ⟨by omega, z.1⟩
      · rintro ⟨hp, e⟩
        have : p = 0 := by
          rcases p with _ | _ | p
          · rfl
          · rw [z.2] at e; cases e
          · omega
        rw [this]
    · simp only [if_neg h1, if_neg h0]
      constructor
      · intro e; cases e
      · rintro ⟨hp, e⟩
        exfalso
        simp only [List.length_nil] at hp
        rcases p with _ | _ | p
        · rw [z.1] at e; have := h.lf hr e.symm; omega
        · rw [z.2] at e; have := h.lf hr e.symm; omega
        · omega
theorem PlaceOk.hit {l o : List Dec} {f : Nat → Option Nat} (hm : Mk o) (h : PlaceOk l o f) {r p : Nat} (hr : r < l.length + 2) (hp : f r = some p) : visitT (trs l r) o = (o, p) := by
  obtain ⟨h1, h2⟩ := (h r p hr).1 hp
  cases ht : trs l r with
  | lf b =>
    rw [ht] at h2
    have h3 := hm.lf h1 h2
    have z := trs_zero o
    cases b with
    | false =>
      rcases p with _ | _ | p
      · rfl
      · rw [z.2] at h2; cases h2
      · omega
    | true =>
      rcases p with _ | _ | p
      · rw [z.1] at h2; cases h2
      · rfl
      · omega
  | nd v lo hi =>
    rw [ht] at h2
    unfold visitT
    rw [look_eq hm h1 h2]
theorem PlaceOk.miss {l o : List Dec} {f : Nat → Option Nat} (hl : Mk l) (h : PlaceOk l o f) {r : Nat} (hr : r < l.length + 2) (hp : f r = none) :
    ∃ x, 2 ≤ r ∧ l[r - 2]? = some x ∧ x.2.1 < r ∧ x.2.2 < r ∧ x.1 < 24 ∧ trs l r = .nd x.1 (trs l x.2.1) (trs l x.2.2) ∧ look o (trs l r) = none := by
  have hlook : look o (trs l r) = none := by
    cases hk : look o (trs l r) with
    | none => rfl
    | some p =>
      have := (h r p hr).2 (look_some hk)
      rw [hp] at this; cases this
  have h2 : 2 ≤ r := by
    rcases Nat.lt_or_ge r 2 with h2 | h2
    · exfalso
      rcases r with _ | _ | r
      · have := (h 0 0 hr).2 ⟨by omega, by rw [(trs_zero o).1, (trs_zero l).1]⟩
        rw [hp] at this; cases this
      · have := (h 1 1 hr).2 ⟨by omega, by rw [(trs_zero o).2, (trs_zero l).2]⟩
        rw [hp] at this; cases this
      · omega
    · exact h2
  obtain ⟨k, rfl⟩ : ∃ k, r = k + 2 := ⟨r - 2, by omega⟩
  have hk : k < l.length := by omega
  have hx := List.getElem?_eq_getElem hk
  have hb := hl.kid k _ hx
  exact ⟨l[k], h2, hx, hb.2.1, hb.2.2.1, hb.1, hl.at hx, hlook⟩
theorem PlaceOk.step {l o o2 : List Dec} {f2 : Nat → Option Nat} {r v p1 p2 : Nat} {lo hi : BT} (hl : Mk l) (hr : r < l.length + 2) (ht : trs l r = .nd v lo hi) (hlook : look o (.nd v lo hi) = none)
    (ho2 : o2 = (visitT hi (visitT lo o).1).1) (h2 : PlaceOk l o2 f2) (h : trs (o2 ++ [(v, p1, p2)]) (o2.length + 2) = .nd v lo hi) :
    PlaceOk l (o2 ++ [(v, p1, p2)]) (fun q => if q = r then some (o2.length + 2) else f2 q) := by
  have hfresh := visitT_fresh hlook
  rw [← ho2] at hfresh
  intro q p hq
  by_cases hqr : q = r
  · subst hqr
    simp only [if_pos]
    constructor
    · intro e; cases e; exact ⟨by simp, by rw [h, ht]⟩
    · rintro ⟨hp, e⟩
      rw [List.length_append, List.length_singleton] at hp
      by_cases hlt : p < o2.length + 2
      · rw [trs_snoc_old hlt, ht] at e
        exact absurd e (hfresh p hlt)
      · rw [show p = o2.length + 2 by omega]
  · simp only [if_neg hqr]
    rw [h2 q p hq]
    constructor
    · rintro ⟨hp, e⟩
      exact ⟨by rw [List.length_append, List.length_singleton]; omega, by rw [trs_snoc_old hp, e]⟩
    · rintro ⟨hp, e⟩
      rw [List.length_append, List.length_singleton] at hp
      by_cases hlt : p < o2.length + 2
      · rw [trs_snoc_old hlt] at e
        exact ⟨hlt, e⟩
      · have hpe : p = o2.length + 2 := by omega
        rw [hpe, h, ← ht] at e
        exact absurd (hl.inj hr hq e).symm hqr
end Dg
