import Derived.Test.YtkgllhkhdjodeaaGreatSpec10
set_option linter.unusedSimpArgs false
set_option linter.unusedVariables false
namespace Fm
open Go Go.Eng
/-- The tokens from a place on, as the reference goes through the text. -/
def scanF (text : List UInt8) : Nat → Nat → List Tk × Int
  | 0, _ => ([], 0)
  | n + 1, i => if text.length ≤ i then ([(text.length, [])], -1) else if text[i]? = some 32 then scanF text n (i + 1) else match tok (text.drop i) with
    | none => ([], (i : Int))
    | some x => ((i, x) :: (scanF text n (i + x.length)).1, (scanF text n (i + x.length)).2)
theorem scan_blanks {text : List UInt8} : ∀ (k n i : Nat), k ≤ blanks (text.drop i) → scanF text (n + k) i = scanF text n (i + k)
  | 0, n, i, _ => rfl
  | k + 1, n, i, h => by
    have hb := blanks_le (text.drop i)
    have hlt : i < text.length := by simp at hb; omega
    have h0 := (blanks_get (text.drop i) 0 (by omega)).2 (by omega)
    have hc : text[i]? = some 32 := by simpa using h0
    rw [show n + (k + 1) = (n + k) + 1 by omega, scanF, if_neg (by omega), if_pos hc]
    have hk : k ≤ blanks (text.drop (i + 1)) := by
      have hd : text.drop i = 32 :: text.drop (i + 1) := by
        rw [List.drop_eq_getElem_cons hlt]
        have := (List.getElem?_eq_some_iff.1 hc).2
        rw [this]
      rw [hd] at h
      simp only [blanks, if_true] at h
      omega
    rw [scan_blanks k n (i + 1) hk]
    congr 1
    omega
theorem tok_ne {rest x : List UInt8} (h : tok rest = some x) (hr : rest ≠ []) : x ≠ [] := by
  unfold tok at h
  rw [if_neg hr] at h
  split at h
  · rename_i s hs
    injection h with h
    subst h
    have hm := List.mem_of_find?_eq_some hs
    intro h0; subst h0
    exact absurd hm (by decide)
  · split at h
    · rename_i hw
      injection h with h
      subst h
      intro h0
      rw [h0] at hw
      simp [isNameB] at hw
    · cases h
theorem scan_toks {text : List UInt8} : ∀ (n a : Nat) (x : List UInt8) (m : Nat), a + x.length ≤ text.length → text.length - a < n → (x = [] → a = 0 ∧ text.length + 1 < n) → text.length - (a + x.length) < m →
    toks text n a x = scanF text m (a + x.length) := by
  intro n
  induction n with
  | zero => intro a x m _ h; omega
  | succ n ih =>
    intro a x m hle hn hx0 hm
    have hb := blanks_le (text.drop (a + x.length))
    have hbl : blanks (text.drop (a + x.length)) ≤ text.length - (a + x.length) := by simpa using hb
    obtain ⟨m', rfl⟩ : ∃ m', m = m' + 1 + blanks (text.drop (a + x.length)) := ⟨m - 1 - blanks (text.drop (a + x.length)), by omega⟩
    rw [scan_blanks _ _ _ (Nat.le_refl _)]
    simp only [toks, next]
    obtain ⟨q, hq⟩ : ∃ q, q = a + x.length + blanks (text.drop (a + x.length)) := ⟨_, rfl⟩
    have hql : q ≤ text.length := by omega
    rw [← hq]
    rw [scanF]
    by_cases hend : text.length ≤ q
    · rw [if_pos hend]
      have hqe : q = text.length := by omega
      have hd : text.drop q = [] := List.drop_of_length_le hend
      rw [hd]
      simp [tok, hqe]
    · rw [if_neg hend]
      have hnb : text[q]? ≠ some 32 := by
        intro hc
        have h1 := (blanks_get (text.drop (a + x.length)) (blanks (text.drop (a + x.length))) (Nat.le_refl _)).1 (by rw [List.getElem?_drop, ← hq]; exact hc)
        omega
      rw [if_neg hnb]
      have hdne : text.drop q ≠ [] := by
        intro h0
        have : (text.drop q).length = 0 := by rw [h0]; rfl
        simp at this; omega
      cases ht : tok (text.drop q) with
      | none => simp
      | some y =>
        have hy := tok_ne ht hdne
        have hyl := tok_le ht
        have hypos : 1 ≤ y.length := List.length_pos_iff.2 hy
        simp only [List.length_drop] at hyl
        have hprog : text.length - q < n := by
          by_cases h0 : x = []
          · have := hx0 h0; omega
          · have : 1 ≤ x.length := List.length_pos_iff.2 h0
            omega
        simp only
        rw [if_neg hy, ih q y m' (by omega) hprog (fun h => absurd h hy) (by omega)]
theorem scan_all (text : List UInt8) : toks text (text.length + 2) 0 [] = scanF text (text.length + 1) 0 :=
  scan_toks (text.length + 2) 0 [] (text.length + 1) (by simp) (by omega) (fun _ => ⟨rfl, by omega⟩) (by simp)
theorem scan_len {text : List UInt8} : ∀ (n i : Nat), (scanF text n i).1.length ≤ n := by
  intro n
  induction n with
  | zero => intro i; simp [scanF]
  | succ n ih =>
    intro i
    rw [scanF]
    split
    · simp
    split
    · have := ih (i + 1); omega
    split
    · simp
    · rename_i x _
      have := ih (i + x.length)
      simp; omega
/-- Signs, one after the other. -/
theorem find_take_none {p : List UInt8 → Bool} {k : Nat} {s : List UInt8} (hs : signs[k]? = some s) : (signs.take (k + 1)).find? p = match (signs.take k).find? p with | some x => some x | none => if p s then some s else none := by
  rw [List.take_add_one, hs, List.find?_append]
  cases h : (signs.take k).find? p with
  | some x => rfl
  | none =>
    simp only [Option.toList, List.find?_cons, List.find?_nil, Option.none_or]
    cases p s <;> rfl
theorem find_sign_ne {p : List UInt8 → Bool} {k : Nat} {s : List UInt8} (h : (signs.take k).find? p = some s) : s ≠ [] := by
  have hm := List.mem_of_mem_take (List.mem_of_find?_eq_some h)
  intro h0; subst h0
  exact absurd hm (by decide)
end Fm

