import Derived.Test.YtkgllhkhdjodeaaGreatSpec7
set_option linter.unusedSimpArgs false
set_option linter.unusedVariables false
namespace Fm
open Go Go.Eng
/-! ### the reference's parser: tokens first, then a reader of them -/
abbrev Tk := Nat × List UInt8
/-- The tokens from the one behind (a, x) on, the end's among them; and where the first byte is that begins no token (-1: nowhere). -/
def toks (text : List UInt8) : Nat → Nat → List UInt8 → List Tk × Int
  | 0, _, _ => ([], 0)
  | n + 1, a, x => match next text a x with
    | .bad b => ([], (b : Int))
    | .ok a' x' => if x' = [] then ([(a', [])], -1) else ((a', x') :: (toks text n a' x').1, (toks text n a' x').2)
abbrev RS := Nat × Bool
def rword (T : List Tk) (r : RS) : List UInt8 := if r.2 = true then [] else match T[r.1]? with
  | some t => t.2
  | none => []
def rskip (T : List Tk) (r : RS) (s : List UInt8) : RS × Bool := if rword T r = s then ((r.1 + 1, r.2), true) else (r, false)
inductive RN where
  | choice | implies | row (i : Nat) | rest (i : Nat) (acc : List Tree) | least
def rp (T : List Tk) : Nat → RN → RS → Option (Tree × RS)
  | 0, _, _ => none
  | n + 1, .choice, r => (rp T n .implies r).bind fun q1 =>
      (if (rskip T q1.2 [60, 61, 62]).2 then (rp T n .implies (rskip T q1.2 [60, 61, 62]).1).bind fun q2 => some (Tree.mk 9 [] [q1.1, q2.1], q2.2) else some q1).bind fun q =>
      if (rskip T q.2 [63]).2 then (rp T n .choice (rskip T q.2 [63]).1).bind fun q2 =>
        if (rskip T q2.2 [58]).2 then (rp T n .choice (rskip T q2.2 [58]).1).bind fun q3 => some (Tree.mk 10 [] [q.1, q2.1, q3.1], q3.2)
        else some (q.1, (q2.2.1, true))
      else some q
  | n + 1, .implies, r => (rp T n (.row 0) r).bind fun q => if (rskip T q.2 [61, 62]).2 then (rp T n .implies (rskip T q.2 [61, 62]).1).bind fun q2 => some (Tree.mk 8 [] [q.1, q2.1], q2.2) else some q
  | n + 1, .row i, r => if 3 ≤ i then rp T n .least r else (rp T n (.row (i + 1)) r).bind fun q => rp T n (.rest i [q.1]) q.2
  | n + 1, .rest i acc, r => if (rskip T r (rowSign i)).2 then (rp T n (.row (i + 1)) (rskip T r (rowSign i)).1).bind fun q => rp T n (.rest i (acc ++ [q.1])) q.2 else some (mkRow i acc, r)
  | n + 1, .least, r => if rword T r = [] then some (zeroTree, (r.1, true))
      else if rword T r = [33] then (rp T n .least (r.1 + 1, r.2)).bind fun q => some (Tree.mk 4 [] [q.1], q.2)
      else if rword T r = [40] then (rp T n .choice (r.1 + 1, r.2)).bind fun q => if (rskip T q.2 [41]).2 then some (q.1, (rskip T q.2 [41]).1) else some (q.1, (q.2.1, true))
      else if rword T r = [48] then some (.mk 1 [] [], (r.1 + 1, r.2))
      else if rword T r = [49] then some (.mk 2 [] [], (r.1 + 1, r.2))
      else if isNameB (rword T r) then some (.mk 3 (rword T r) [], (r.1 + 1, r.2))
      else some (zeroTree, (r.1, true))

theorem bind_mono {α β : Type} {x y : Option α} {f g : α → Option β} {r : β} (h : x.bind f = some r) (hx : ∀ a, x = some a → y = some a) (hf : ∀ a b, f a = some b → g a = some b) : y.bind g = some r := by
  cases x with
  | none => cases h
  | some a => rw [hx a rfl]; exact hf a r h
theorem rp_succ {T : List Tk} : ∀ (n : Nat) (nt : RN) (r : RS) (q : Tree × RS), rp T n nt r = some q → rp T (n + 1) nt r = some q := by
  intro n
  induction n with
  | zero => intro nt r q h; simp [rp] at h
  | succ n ih =>
    intro nt r q h
    cases nt with
    | choice =>
      rw [rp] at h ⊢
      refine bind_mono h (fun a ha => ih _ _ _ ha) fun a b h => ?_
      refine bind_mono h (fun c hc => ?_) fun c d h => ?_
      · split at hc
        · rename_i hs; rw [if_pos hs]
          exact bind_mono hc (fun a ha => ih _ _ _ ha) fun _ _ h => h
        · rename_i hs; rw [if_neg hs]; exact hc
      · split at h
        · rename_i hs; rw [if_pos hs]
          refine bind_mono h (fun a ha => ih _ _ _ ha) fun e f h => ?_
          split at h
          · rename_i hs; rw [if_pos hs]
            exact bind_mono h (fun a ha => ih _ _ _ ha) fun _ _ h => h
          · rename_i hs; rw [if_neg hs]; exact h
        · rename_i hs; rw [if_neg hs]; exact h
    | implies =>
      rw [rp] at h ⊢
      refine bind_mono h (fun a ha => ih _ _ _ ha) fun a b h => ?_
      split at h
      · rename_i hs; rw [if_pos hs]
        exact bind_mono h (fun a ha => ih _ _ _ ha) fun _ _ h => h
      · rename_i hs; rw [if_neg hs]; exact h
    | row i =>
      rw [rp] at h ⊢
      split at h
      · rename_i hs; rw [if_pos hs]; exact ih _ _ _ h
      · rename_i hs; rw [if_neg hs]
        exact bind_mono h (fun a ha => ih _ _ _ ha) fun a b h => ih _ _ _ h
    | rest i acc =>
      rw [rp] at h ⊢
      split at h
      · rename_i hs; rw [if_pos hs]
        exact bind_mono h (fun a ha => ih _ _ _ ha) fun a b h => ih _ _ _ h
      · rename_i hs; rw [if_neg hs]; exact h
    | least =>
      rw [rp] at h ⊢
      split at h
      · rename_i hs; rw [if_pos hs]; exact h
      rename_i hs; rw [if_neg hs]
      split at h
      · rename_i hs; rw [if_pos hs]
        exact bind_mono h (fun a ha => ih _ _ _ ha) fun _ _ h => h
      rename_i hs; rw [if_neg hs]
      split at h
      · rename_i hs; rw [if_pos hs]
        exact bind_mono h (fun a ha => ih _ _ _ ha) fun _ _ h => h
      rename_i hs; rw [if_neg hs]
      exact h
theorem rp_mono {T : List Tk} {n m : Nat} {nt : RN} {r : RS} {q : Tree × RS} (h : rp T n nt r = some q) (hm : n ≤ m) : rp T m nt r = some q := by
  obtain ⟨k, rfl⟩ := Nat.exists_eq_add_of_le hm
  clear hm
  induction k with
  | zero => exact h
  | succ k ih => exact rp_succ _ _ _ _ ih

/-! what is behind a token -/
inductive AtTok (text : List UInt8) (T : List Tk) (e : Int) : Nat → Nat → List UInt8 → Prop
  | mk {I a : Nat} {x : List UInt8} (h : T[I]? = some (a, x)) (hn : x ≠ [] → ∀ (a' : Nat) (x' : List UInt8), next text a x = .ok a' x' → AtTok text T e (I + 1) a' x') (hb : x ≠ [] → ∀ b, next text a x = .bad b → T.length = I + 1 ∧ e = (b : Int))
      (hend : x = [] → T.length = I + 1 ∧ e = -1) : AtTok text T e I a x
section
variable {text : List UInt8} {T : List Tk} {e : Int} {I a : Nat} {x : List UInt8}
theorem AtTok.get (h : AtTok text T e I a x) : T[I]? = some (a, x) := by cases h; assumption
theorem AtTok.next (h : AtTok text T e I a x) (hx : x ≠ []) : (∀ a' x', Fm.next text a x = .ok a' x' → AtTok text T e (I + 1) a' x') ∧ (∀ b, Fm.next text a x = .bad b → T.length = I + 1 ∧ e = (b : Int)) := by
  cases h with
  | mk h1 hn hb _ => exact ⟨hn hx, hb hx⟩
theorem AtTok.last (h : AtTok text T e I a []) : T.length = I + 1 ∧ e = -1 := by
  cases h with
  | mk h1 _ _ hend => exact hend rfl
end
theorem toks_at {text : List UInt8} : ∀ (n a : Nat) (x : List UInt8) (pre : List Tk) (a' : Nat) (x' : List UInt8), a + x.length ≤ text.length → text.length - a < n → (x = [] → a = 0 ∧ text.length + 1 < n) → Fm.next text a x = .ok a' x' →
    AtTok text (pre ++ (toks text n a x).1) (toks text n a x).2 pre.length a' x' := by
  intro n
  induction n with
  | zero => intro a x pre a' x' _ h; omega
  | succ n ih =>
    intro a x pre a' x' hle hn hx0 hnx
    have hl := next_le hle hnx
    simp only [toks, hnx]
    by_cases hx : x' = []
    · subst hx
      rw [if_pos rfl]
      exact .mk (by simp) (fun h => absurd rfl h) (fun h => absurd rfl h) (fun _ => ⟨by simp, rfl⟩)
    · rw [if_neg hx]
      have hpos : 1 ≤ x'.length := List.length_pos_iff.2 hx
      have hprog : text.length - a' < n := by
        by_cases h0 : x = []
        · have := hx0 h0; omega
        · have : 1 ≤ x.length := List.length_pos_iff.2 h0
          omega
      refine .mk (by simp) (fun _ a2 x2 h2 => ?_) (fun _ b h2 => ?_) (fun h => absurd h hx)
      · have := ih a' x' (pre ++ [(a', x')]) a2 x2 hl.2 hprog (fun h => absurd h hx) h2
        simpa using this
      · obtain ⟨m, rfl⟩ : ∃ m, n = m + 1 := ⟨n - 1, by omega⟩
        simp only [toks, h2]
        simp
end Fm

