import Derived.Test.YtkgllhkhdjodeaaGreatSpecD2
set_option linter.unusedSimpArgs false
set_option linter.unusedVariables false
/-! What joins two diagrams. -/
namespace Dg
/-- The node at a place, or one behind all features. -/
def atD (l : List Dec) (r : Nat) : Dec := if r < 2 then (24, r, r) else l.getD (r - 2) (24, r, r)
theorem atD_ge {l : List Dec} {r : Nat} {x : Dec} (h2 : 2 ≤ r) (hx : l[r - 2]? = some x) : atD l r = x := by
  unfold atD
  rw [if_neg (by omega)]
  simp [List.getD, hx]
/-- Below a feature i: the places of a set's two halves. -/
def loP (l : List Dec) (r i : Nat) : Nat := if (atD l r).1 = i then (atD l r).2.1 else r
def hiP (l : List Dec) (r i : Nat) : Nat := if (atD l r).1 = i then (atD l r).2.2 else r
theorem half_at {l : List Dec} (h : Mk l) {r i : Nat} (hr : r < l.length + 2) {m : Nat} (ho : (trs l r).ok m) (hi : i ≤ (atD l r).1) (hi24 : i < 24) :
    loP l r i < l.length + 2 ∧ hiP l r i < l.length + 2 ∧ (trs l (loP l r i)).ok (i + 1) ∧ (trs l (hiP l r i)).ok (i + 1) ∧ (∀ c, (trs l r).ev c = bif c i then (trs l (hiP l r i)).ev c else (trs l (loP l r i)).ev c) ∧ ((atD l r).1 = i → m ≤ i) ∧ ((atD l r).1 = i → 2 ≤ r) := by
  unfold loP hiP
  rcases Nat.lt_or_ge r 2 with h2 | h2
  · have e : atD l r = (24, r, r) := by unfold atD; rw [if_pos h2]
    rw [e]
    have hne : ¬ ((24, r, r) : Dec).1 = i := by simp only; omega
    simp only [if_neg hne]
    have hlf : ∃ b, trs l r = .lf b := by
      rcases r with _ | _ | r
      · exact ⟨_, (trs_zero l).1⟩
      · exact ⟨_, (trs_zero l).2⟩
      · omega
    obtain ⟨b, hb⟩ := hlf
    rw [hb]
    exact ⟨hr, hr, trivial, trivial, fun c => by cases c i <;> rfl, fun h => absurd h hne, fun h => absurd h hne⟩
  · obtain ⟨k, rfl⟩ : ∃ k, r = k + 2 := ⟨r - 2, by omega⟩
    have hk : k < l.length := by omega
    have hx := List.getElem?_eq_getElem hk
    have e : atD l (k + 2) = l[k] := atD_ge h2 hx
    have hb := h.kid k _ hx
    have ht := h.at hx
    rw [e] at hi ⊢
    rw [ht] at ho ⊢
    by_cases hv : l[k].1 = i
    · simp only [if_pos hv]
      refine ⟨by omega, by omega, hv ▸ ho.2.2.2.1, hv ▸ ho.2.2.2.2, fun c => ?_, fun _ => hv ▸ ho.1, fun _ => h2⟩
      simp only [BT.ev, hv]
    · simp only [if_neg hv]
      have hok : (BT.nd l[k].1 (trs l l[k].2.1) (trs l l[k].2.2)).ok (i + 1) := ⟨by omega, ho.2⟩
      rw [ht]
      exact ⟨hr, hr, hok, hok, fun c => by cases c i <;> rfl, fun h => absurd h hv, fun h => absurd h hv⟩
theorem atD_lt {l : List Dec} (h : Mk l) {r : Nat} (hr : r < l.length + 2) (h2 : 2 ≤ r) : (atD l r).1 < 24 := by
  obtain ⟨k, rfl⟩ : ∃ k, r = k + 2 := ⟨r - 2, by omega⟩
  have hk : k < l.length := by omega
  rw [atD_ge h2 (List.getElem?_eq_getElem hk)]
  exact (h.kid k _ (List.getElem?_eq_getElem hk)).1
theorem atD_ok {l : List Dec} (h : Mk l) {r m : Nat} (hr : r < l.length + 2) (ho : (trs l r).ok m) (hm : m ≤ 24) : m ≤ (atD l r).1 := by
  rcases Nat.lt_or_ge r 2 with h2 | h2
  · unfold atD; rw [if_pos h2]; exact hm
  · obtain ⟨k, rfl⟩ : ∃ k, r = k + 2 := ⟨r - 2, by omega⟩
    have hk : k < l.length := by omega
    rw [atD_ge h2 (List.getElem?_eq_getElem hk)]
    rw [h.at (List.getElem?_eq_getElem hk)] at ho
    exact ho.1
/-- A place that holds what an operation makes of two trees. -/
structure JR (bop : Bool → Bool → Bool) (l : List Dec) (r : Nat) (s t : BT) : Prop where
  lt : r < l.length + 2
  ok : ∀ j, s.ok j → t.ok j → (trs l r).ok j
  ev : ∀ c, (trs l r).ev c = bop (s.ev c) (t.ev c)
theorem JR.ext {bop : Bool → Bool → Bool} {l : List Dec} {r : Nat} {s t : BT} (h : JR bop l r s t) {l' : List Dec} (hp : ∃ z, l' = l ++ z) : JR bop l' r s t := by
  obtain ⟨z, rfl⟩ := hp
  have e := trs_append (m := z) h.lt
  exact ⟨by rw [List.length_append]; have := h.lt; omega, fun j hs ht => by rw [e]; exact h.ok j hs ht, fun c => by rw [e]; exact h.ev c⟩
def SeenOk (bop : Bool → Bool → Bool) (la lb l : List Dec) (f : Nat × Nat → Option Nat) : Prop := ∀ x y r, f (x, y) = some r → JR bop l r (trs la x) (trs lb y)
theorem SeenOk.ext {bop : Bool → Bool → Bool} {la lb l l' : List Dec} {f : Nat × Nat → Option Nat} (h : SeenOk bop la lb l f) (hp : ∃ z, l' = l ++ z) : SeenOk bop la lb l' f := fun x y r hr => (h x y r hr).ext hp
theorem SeenOk.put {bop : Bool → Bool → Bool} {la lb l : List Dec} {f : Nat × Nat → Option Nat} (h : SeenOk bop la lb l f) {x y r : Nat} (hr : JR bop l r (trs la x) (trs lb y)) : SeenOk bop la lb l (fun q => if q = (x, y) then some r else f q) := by
  intro x' y' r' h'
  by_cases e : (x', y') = (x, y)
  · simp only [if_pos e, Option.some.injEq] at h'
    cases e
    rw [← h']; exact hr
  · simp only [if_neg e] at h'
    exact h x' y' r' h'
/-- What an operation says of two places, and whether that is enough. -/
structure OpSpec (bop : Bool → Bool → Bool) (opf : Nat → Nat → Nat × Bool) : Prop where
  stop : ∀ x y, (opf x y).2 = true → ∃ b : Bool, (opf x y).1 = (bif b then 1 else 0) ∧ ∀ p q : Bool, (x = 0 → p = false) → (x = 1 → p = true) → (y = 0 → q = false) → (y = 1 → q = true) → bop p q = b
  go : ∀ x y, (opf x y).2 = false → 2 ≤ x ∨ 2 ≤ y
theorem OpSpec.done {bop : Bool → Bool → Bool} {opf : Nat → Nat → Nat × Bool} (h : OpSpec bop opf) {la lb l : List Dec} {x y : Nat} (hs : (opf x y).2 = true) : JR bop l (opf x y).1 (trs la x) (trs lb y) := by
  obtain ⟨b, h1, h2⟩ := h.stop x y hs
  have hb : trs l (opf x y).1 = .lf b := by
    rw [h1]; cases b
    · exact (trs_zero l).1
    · exact (trs_zero l).2
  refine ⟨by rw [h1]; cases b <;> simp, fun j _ _ => by rw [hb]; trivial, fun c => ?_⟩
  rw [hb]
  symm
  refine h2 _ _ (fun e => ?_) (fun e => ?_) (fun e => ?_) (fun e => ?_)
  · rw [e, (trs_zero la).1]; rfl
  · rw [e, (trs_zero la).2]; rfl
  · rw [e, (trs_zero lb).1]; rfl
  · rw [e, (trs_zero lb).2]; rfl
/-- A node over what the halves give. -/
theorem JR.node {bop : Bool → Bool → Bool} {la lb l1 l2 l3 : List Dec} {x y i p q r m : Nat} (ha : Mk la) (hb : Mk lb) (hx : x < la.length + 2) (hy : y < lb.length + 2) (hox : (trs la x).ok m) (hoy : (trs lb y).ok m) (hi : i = min (atD la x).1 (atD lb y).1) (hi24 : i < 24)
    (h1 : JR bop l1 p (trs la (loP la x i)) (trs lb (loP lb y i))) (h2 : JR bop l2 q (trs la (hiP la x i)) (trs lb (hiP lb y i))) (he : ∃ z, l2 = l1 ++ z) (h3 : MadeN l2 l3 r (mkN i (trs l2 p) (trs l2 q))) : JR bop l3 r (trs la x) (trs lb y) := by
  have hix : i ≤ (atD la x).1 := by omega
  have hiy : i ≤ (atD lb y).1 := by omega
  obtain ⟨a1, a2, a3, a4, a5, a6, _⟩ := half_at ha hx hox hix hi24
  obtain ⟨b1, b2, b3, b4, b5, b6, _⟩ := half_at hb hy hoy hiy hi24
  have h1' := h1.ext he
  refine ⟨h3.lt, fun j hs ht => ?_, fun c => ?_⟩
  · rw [h3.tree]
    refine mkN_ok ?_ hi24 (h1'.ok _ a3 b3) (h2.ok _ a4 b4)
    have e : (atD la x).1 = i ∨ (atD lb y).1 = i := by omega
    rcases e with e | e
    · exact (half_at ha hx hs hix hi24).2.2.2.2.2.1 e
    · exact (half_at hb hy ht hiy hi24).2.2.2.2.2.1 e
  · rw [h3.tree, mkN_ev, a5 c, b5 c, h1'.ev c, h2.ev c]
    cases c i <;> rfl
def andF (x y : Nat) : Nat × Bool := (min (min x y) 1, x == 0 || y == 0 || (x == 1 && y == 1))
def orF (x y : Nat) : Nat × Bool := if x = 1 ∨ y = 1 then (1, true) else (0, x == 0 && y == 0)
def xorF (x y : Nat) : Nat × Bool := (x ^^^ y, decide (x < 2) && decide (y < 2))
theorem and_spec : OpSpec (fun p q => p && q) andF where
  stop x y h := by
    unfold andF at h ⊢
    simp only [Bool.or_eq_true, Bool.and_eq_true, beq_iff_eq] at h
    rcases h with (h | h) | ⟨h, h'⟩
    · refine ⟨false, by simp only [cond_false]; omega, fun p q h1 _ _ _ => by rw [h1 h]; rfl⟩
    · refine ⟨false, by simp only [cond_false]; omega, fun p q _ _ h1 _ => by rw [h1 h]; simp⟩
    · refine ⟨true, by simp only [cond_true]; omega, fun p q _ h1 _ h2 => by rw [h1 h, h2 h']; rfl⟩
  go x y h := by
    unfold andF at h
    simp at h
    omega
theorem or_spec : OpSpec (fun p q => p || q) orF where
  stop x y h := by
    unfold orF at h ⊢
    split at h
    · rename_i h1
      rw [if_pos h1]
      refine ⟨true, rfl, fun p q _ a _ b => ?_⟩
      rcases h1 with e | e
      · rw [a e]; rfl
      · rw [b e]; simp
    · rename_i h1
      rw [if_neg h1]
      simp only [Bool.and_eq_true, beq_iff_eq] at h
      exact ⟨false, rfl, fun p q a _ b _ => by rw [a h.1, b h.2]; rfl⟩
  go x y h := by
    unfold orF at h
    split at h
    · cases h
    · simp at h
      omega
theorem xor_spec : OpSpec (fun p q => p != q) xorF where
  stop x y h := by
    unfold xorF at h ⊢
    simp only [Bool.and_eq_true, decide_eq_true_eq] at h
    obtain ⟨h1, h2⟩ := h
    rcases x with _ | _ | x <;> rcases y with _ | _ | y <;> first | omega | skip
    · exact ⟨false, rfl, fun p q a _ b _ => by rw [a rfl, b rfl]; rfl⟩
    · exact ⟨true, rfl, fun p q a _ _ b => by rw [a rfl, b rfl]; rfl⟩
    · exact ⟨true, rfl, fun p q _ a b _ => by rw [a rfl, b rfl]; rfl⟩
    · exact ⟨false, rfl, fun p q _ a _ b => by rw [a rfl, b rfl]; rfl⟩
  go x y h := by
    unfold xorF at h
    simp at h
    omega
end Dg
