import Derived.Test.YtkgllhkhdjodeaaGreatEng7
namespace Fm
open Go.Eng

/-! ### words and tokens -/
def inWordB (c : UInt8) : Bool := c == 95 || (48 ≤ c && c ≤ 57) || (97 ≤ c && c ≤ 122) || (65 ≤ c && c ≤ 90)
def isNameB (s : List UInt8) : Bool := match s with
  | [] => false
  | c :: _ => decide (s.length ≤ 32) && !(48 ≤ c && c ≤ 57) && s.all inWordB

def blanks : List UInt8 → Nat
  | [] => 0
  | c :: r => if c = 32 then blanks r + 1 else 0

def signs : List (List UInt8) := [[60, 61, 62], [61, 62], [33], [38], [94], [124], [63], [58], [40], [41]]
def pre (rest s : List UInt8) : Bool := decide (s.length ≤ rest.length) && rest.take s.length == s
def word (rest : List UInt8) : List UInt8 := rest.takeWhile inWordB
/-- The token at the head of what is left; none: no token begins here. -/
def tok (rest : List UInt8) : Option (List UInt8) :=
  if rest = [] then some [] else
  match signs.find? (pre rest) with
  | some s => some s
  | none => if word rest = [48] ∨ word rest = [49] ∨ isNameB (word rest) = true then some (word rest) else none

inductive NR where
  | ok (at_ : Nat) (word : List UInt8)
  | bad (at_ : Nat)
def next (text : List UInt8) (at_ : Nat) (w : List UInt8) : NR :=
  let p := at_ + w.length
  let q := p + blanks (text.drop p)
  match tok (text.drop q) with
  | some x => .ok q x
  | none => .bad q

theorem blanks_le : ∀ l : List UInt8, blanks l ≤ l.length
  | [] => by simp [blanks]
  | c :: r => by simp only [blanks]; split <;> simp <;> have := blanks_le r <;> omega
end Fm
namespace Fm
theorem blanks_get : ∀ (l : List UInt8) (k : Nat), k ≤ blanks l → (l[k]? = some 32 ↔ k < blanks l)
  | [], k, h => by simp [blanks] at h; simp [blanks]
  | c :: r, k, h => by
    simp only [blanks] at h ⊢
    by_cases hc : c = 32
    · subst hc
      simp only [if_true] at h ⊢
      cases k with
      | zero => simp
      | succ k =>
        have := blanks_get r k (by omega)
        simp only [List.getElem?_cons_succ, this]
        omega
    · simp only [hc, if_false] at h ⊢
      have : k = 0 := by omega
      subst this
      simp [hc]

theorem takeWhile_get (p : UInt8 → Bool) : ∀ (l : List UInt8) (k : Nat) (c : UInt8), k ≤ (l.takeWhile p).length → l[k]? = some c → (p c = true ↔ k < (l.takeWhile p).length)
  | [], k, c, _, hc => by simp at hc
  | a :: r, k, c, h, hc => by
    by_cases ha : p a = true
    · rw [List.takeWhile_cons_of_pos ha] at h ⊢
      cases k with
      | zero => simp at hc; subst hc; simp [ha]
      | succ k =>
        have := takeWhile_get p r k c (by simpa using h) (by simpa using hc)
        simp only [this, List.length_cons]
        omega
    · rw [List.takeWhile_cons_of_neg ha] at h ⊢
      have hk : k = 0 := by simpa using h
      subst hk
      simp at hc; subst hc
      simp [ha]
theorem takeWhile_le (p : UInt8 → Bool) (l : List UInt8) : (l.takeWhile p).length ≤ l.length := (List.takeWhile_sublist p).length_le
theorem takeWhile_take (p : UInt8 → Bool) : ∀ (l : List UInt8), l.take (l.takeWhile p).length = l.takeWhile p
  | [] => rfl
  | a :: r => by
    by_cases ha : p a = true
    · rw [List.takeWhile_cons_of_pos ha]; simp [takeWhile_take p r]
    · rw [List.takeWhile_cons_of_neg ha]; simp

theorem find_at {α : Type} (p : α → Bool) : ∀ (l : List α) (i : Nat) (s : α), (l.take i).all (fun x => !p x) = true → l[i]? = some s → p s = true → l.find? p = some s
  | [], i, s, _, hs, _ => by simp at hs
  | a :: r, 0, s, _, hs, hp => by simp at hs; subst hs; simp [hp]
  | a :: r, i + 1, s, h, hs, hp => by
    simp only [List.take_succ_cons, List.all_cons, Bool.and_eq_true] at h
    have ha : p a = false := by simpa using h.1
    rw [List.find?_cons, ha]
    exact find_at p r i s h.2 (by simpa using hs) hp
theorem find_none {α : Type} (p : α → Bool) (l : List α) (h : l.all (fun x => !p x) = true) : l.find? p = none := by
  rw [List.find?_eq_none]
  intro x hx
  have := List.all_eq_true.1 h x hx
  simpa using this
theorem all_take_succ {α : Type} (p : α → Bool) (l : List α) (i : Nat) (s : α) (hs : l[i]? = some s) : (l.take (i + 1)).all p = ((l.take i).all p && p s) := by
  rw [List.take_add_one, hs]; simp
end Fm
namespace Fm
open Go.Eng
inductive PR where
  | ok (t : Tree) (at_ : Nat) (wd : List UInt8)
  | bad (at_ : Nat)
inductive TR where
  | no
  | yes (at_ : Nat) (wd : List UInt8)
  | bad (at_ : Nat)
def takes (text : List UInt8) (at_ : Nat) (wd s : List UInt8) : TR :=
  if wd = s then match next text at_ wd with
    | .ok a x => .yes a x
    | .bad a => .bad a
  else .no
def bindP (r : Option PR) (f : Tree → Nat → List UInt8 → Option PR) : Option PR := match r with
  | none => none
  | some (.bad a) => some (.bad a)
  | some (.ok t a x) => f t a x
def bindT (r : TR) (no : Option PR) (yes : Nat → List UInt8 → Option PR) : Option PR := match r with
  | .no => no
  | .yes a x => yes a x
  | .bad a => some (.bad a)

inductive NT where
  | choice | same | implies | row (i : Nat) | rest (i : Nat) (acc : List Tree) | not | least
def rowSign (i : Nat) : List UInt8 := if i = 0 then [124] else if i = 1 then [94] else [38]
def rowOp (i : Nat) : Int := if i = 0 then 6 else if i = 1 then 7 else 5
def mkRow (i : Nat) (acc : List Tree) : Tree := match acc with
  | [t] => t
  | l => .mk (rowOp i) [] l
def leaf (wd : List UInt8) : Tree := if wd = [48] then .mk 1 [] [] else if wd = [49] then .mk 2 [] [] else .mk 3 wd []
def noLeaf (wd : List UInt8) : Bool := match wd with
  | [] => true
  | c :: _ => !inWordB c

def parse (text : List UInt8) : Nat → NT → Nat → List UInt8 → Option PR
  | 0, _, _, _ => none
  | n + 1, .choice, a, x => bindP (parse text n .same a x) fun t1 a1 x1 => bindT (takes text a1 x1 [63]) (some (.ok t1 a1 x1)) fun a2 x2 =>
      bindP (parse text n .choice a2 x2) fun t2 a3 x3 => bindT (takes text a3 x3 [58]) (some (.bad a3)) fun a4 x4 =>
      bindP (parse text n .choice a4 x4) fun t3 a5 x5 => some (.ok (.mk 10 [] [t1, t2, t3]) a5 x5)
  | n + 1, .same, a, x => bindP (parse text n .implies a x) fun t1 a1 x1 => bindT (takes text a1 x1 [60, 61, 62]) (some (.ok t1 a1 x1)) fun a2 x2 =>
      bindP (parse text n .implies a2 x2) fun t2 a3 x3 => some (.ok (.mk 9 [] [t1, t2]) a3 x3)
  | n + 1, .implies, a, x => bindP (parse text n (.row 0) a x) fun t1 a1 x1 => bindT (takes text a1 x1 [61, 62]) (some (.ok t1 a1 x1)) fun a2 x2 =>
      bindP (parse text n .implies a2 x2) fun t2 a3 x3 => some (.ok (.mk 8 [] [t1, t2]) a3 x3)
  | n + 1, .row i, a, x => if 3 ≤ i then parse text n .not a x else bindP (parse text n (.row (i + 1)) a x) fun t1 a1 x1 => parse text n (.rest i [t1]) a1 x1
  | n + 1, .rest i acc, a, x => bindT (takes text a x (rowSign i)) (some (.ok (mkRow i acc) a x)) fun a1 x1 =>
      bindP (parse text n (.row (i + 1)) a1 x1) fun t a2 x2 => parse text n (.rest i (acc ++ [t])) a2 x2
  | n + 1, .not, a, x => bindT (takes text a x [33]) (parse text n .least a x) fun a1 x1 => bindP (parse text n .not a1 x1) fun t a2 x2 => some (.ok (.mk 4 [] [t]) a2 x2)
  | n + 1, .least, a, x => bindT (takes text a x [40]) (if noLeaf x then some (.bad a) else match next text a x with
        | .bad b => some (.bad b)
        | .ok a1 x1 => some (.ok (leaf x) a1 x1)) fun a1 x1 =>
      bindP (parse text n .choice a1 x1) fun t a2 x2 => bindT (takes text a2 x2 [41]) (some (.bad a2)) fun a3 x3 => some (.ok t a3 x3)

theorem pre_le {rest s : List UInt8} (h : pre rest s = true) : s.length ≤ rest.length := by
  simp [pre] at h; exact h.1
theorem tok_le {rest x : List UInt8} (h : tok rest = some x) : x.length ≤ rest.length := by
  unfold tok at h
  split at h
  · simp at h; subst h; simp
  · split at h
    · rename_i s hs
      simp at h; subst h
      exact pre_le (by simpa using List.find?_some hs)
    · split at h
      · simp at h; subst h; exact takeWhile_le _ _
      · cases h
theorem next_le {text wd x : List UInt8} {at_ a : Nat} (hle : at_ + wd.length ≤ text.length) (h : next text at_ wd = .ok a x) : at_ + wd.length ≤ a ∧ a + x.length ≤ text.length := by
  simp only [next] at h
  split at h
  · rename_i y hy
    injection h with h1 h2
    subst h1; subst h2
    have := tok_le hy
    have hb := blanks_le (text.drop (at_ + wd.length))
    simp at this hb
    omega
  · cases h
theorem takes_le {text wd s x : List UInt8} {at_ a : Nat} (hle : at_ + wd.length ≤ text.length) (h : takes text at_ wd s = .yes a x) : at_ + wd.length ≤ a ∧ a + x.length ≤ text.length := by
  unfold takes at h
  split at h
  · split at h
    · rename_i b y hn
      injection h with h1 h2
      subst h1; subst h2
      exact next_le hle hn
    · cases h
  · cases h
theorem bindP_ok {r : Option PR} {f} {q : PR} (h : bindP r f = some q) : (∃ a, r = some (.bad a) ∧ q = .bad a) ∨ ∃ t a x, r = some (.ok t a x) ∧ f t a x = some q := by
  unfold bindP at h
  split at h
  · cases h
  · exact .inl ⟨_, rfl, by simpa using h.symm⟩
  · exact .inr ⟨_, _, _, rfl, h⟩
theorem bindT_ok {r : TR} {no : Option PR} {f} {q : PR} (h : bindT r no f = some q) : (r = .no ∧ no = some q) ∨ (∃ a x, r = .yes a x ∧ f a x = some q) ∨ ∃ a, r = .bad a ∧ q = .bad a := by
  unfold bindT at h
  split at h
  · exact .inl ⟨rfl, h⟩
  · exact .inr (.inl ⟨_, _, rfl, h⟩)
  · exact .inr (.inr ⟨_, rfl, by simpa using h.symm⟩)

theorem parse_le {text : List UInt8} : ∀ (n : Nat) (nt : NT) (a : Nat) (x : List UInt8) (t : Tree) (a' : Nat) (x' : List UInt8), a + x.length ≤ text.length → parse text n nt a x = some (.ok t a' x') → a ≤ a' ∧ a' + x'.length ≤ text.length := by
  intro n
  induction n with
  | zero => intro nt a x t a' x' _ h; simp [parse] at h
  | succ n ih =>
    intro nt a x t a' x' hle h
    cases nt with
    | choice =>
      simp only [parse] at h
      rcases bindP_ok h with ⟨_, _, h⟩ | ⟨t1, a1, x1, h1, h⟩
      · cases h
      have g1 := ih _ _ _ _ _ _ hle h1
      rcases bindT_ok h with ⟨_, h⟩ | ⟨a2, x2, h2, h⟩ | ⟨_, _, h⟩
      · injection h with h; injection h with _ e1 e2; subst e1; subst e2; exact g1
      · have g2 := takes_le g1.2 h2
        rcases bindP_ok h with ⟨_, _, h⟩ | ⟨t2, a3, x3, h3, h⟩
        · cases h
        have g3 := ih _ _ _ _ _ _ g2.2 h3
        rcases bindT_ok h with ⟨_, h⟩ | ⟨a4, x4, h4, h⟩ | ⟨_, _, h⟩
        · cases h
        · have g4 := takes_le g3.2 h4
          rcases bindP_ok h with ⟨_, _, h⟩ | ⟨t3, a5, x5, h5, h⟩
          · cases h
          have g5 := ih _ _ _ _ _ _ g4.2 h5
          injection h with h; injection h with _ e1 e2; subst e1; subst e2
          exact ⟨by omega, g5.2⟩
        · cases h
      · cases h
    | same =>
      simp only [parse] at h
      rcases bindP_ok h with ⟨_, _, h⟩ | ⟨t1, a1, x1, h1, h⟩
      · cases h
      have g1 := ih _ _ _ _ _ _ hle h1
      rcases bindT_ok h with ⟨_, h⟩ | ⟨a2, x2, h2, h⟩ | ⟨_, _, h⟩
      · injection h with h; injection h with _ e1 e2; subst e1; subst e2; exact g1
      · have g2 := takes_le g1.2 h2
        rcases bindP_ok h with ⟨_, _, h⟩ | ⟨t2, a3, x3, h3, h⟩
        · cases h
        have g3 := ih _ _ _ _ _ _ g2.2 h3
        injection h with h; injection h with _ e1 e2; subst e1; subst e2
        exact ⟨by omega, g3.2⟩
      · cases h
    | implies =>
      simp only [parse] at h
      rcases bindP_ok h with ⟨_, _, h⟩ | ⟨t1, a1, x1, h1, h⟩
      · cases h
      have g1 := ih _ _ _ _ _ _ hle h1
      rcases bindT_ok h with ⟨_, h⟩ | ⟨a2, x2, h2, h⟩ | ⟨_, _, h⟩
      · injection h with h; injection h with _ e1 e2; subst e1; subst e2; exact g1
      · have g2 := takes_le g1.2 h2
        rcases bindP_ok h with ⟨_, _, h⟩ | ⟨t2, a3, x3, h3, h⟩
        · cases h
        have g3 := ih _ _ _ _ _ _ g2.2 h3
        injection h with h; injection h with _ e1 e2; subst e1; subst e2
        exact ⟨by omega, g3.2⟩
      · cases h
    | row i =>
      simp only [parse] at h
      split at h
      · exact ih _ _ _ _ _ _ hle h
      · rcases bindP_ok h with ⟨_, _, h⟩ | ⟨t1, a1, x1, h1, h⟩
        · cases h
        have g1 := ih _ _ _ _ _ _ hle h1
        have g2 := ih _ _ _ _ _ _ g1.2 h
        exact ⟨by omega, g2.2⟩
    | rest i acc =>
      simp only [parse] at h
      rcases bindT_ok h with ⟨_, h⟩ | ⟨a2, x2, h2, h⟩ | ⟨_, _, h⟩
      · injection h with h; injection h with _ e1 e2; subst e1; subst e2; exact ⟨Nat.le_refl _, hle⟩
      · have g2 := takes_le hle h2
        rcases bindP_ok h with ⟨_, _, h⟩ | ⟨t2, a3, x3, h3, h⟩
        · cases h
        have g3 := ih _ _ _ _ _ _ g2.2 h3
        have g4 := ih _ _ _ _ _ _ g3.2 h
        exact ⟨by omega, g4.2⟩
      · cases h
    | not =>
      simp only [parse] at h
      rcases bindT_ok h with ⟨_, h⟩ | ⟨a2, x2, h2, h⟩ | ⟨_, _, h⟩
      · exact ih _ _ _ _ _ _ hle h
      · have g2 := takes_le hle h2
        rcases bindP_ok h with ⟨_, _, h⟩ | ⟨t2, a3, x3, h3, h⟩
        · cases h
        have g3 := ih _ _ _ _ _ _ g2.2 h3
        injection h with h; injection h with _ e1 e2; subst e1; subst e2
        exact ⟨by omega, g3.2⟩
      · cases h
    | least =>
      simp only [parse] at h
      rcases bindT_ok h with ⟨_, h⟩ | ⟨a2, x2, h2, h⟩ | ⟨_, _, h⟩
      · split at h
        · cases h
        · split at h
          · cases h
          · rename_i a1 x1 hn
            injection h with h; injection h with _ e1 e2; subst e1; subst e2
            have := next_le hle hn
            exact ⟨by omega, this.2⟩
      · have g2 := takes_le hle h2
        rcases bindP_ok h with ⟨_, _, h⟩ | ⟨t2, a3, x3, h3, h⟩
        · cases h
        have g3 := ih _ _ _ _ _ _ g2.2 h3
        rcases bindT_ok h with ⟨_, h⟩ | ⟨a4, x4, h4, h⟩ | ⟨_, _, h⟩
        · cases h
        · have g4 := takes_le g3.2 h4
          injection h with h; injection h with _ e1 e2; subst e1; subst e2
          exact ⟨by omega, g4.2⟩
        · cases h
      · cases h
end Fm

