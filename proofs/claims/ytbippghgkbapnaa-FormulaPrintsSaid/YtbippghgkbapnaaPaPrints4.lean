import Derived.Test.YtbippghgkbapnaaPaPrints3
set_option linter.unusedSimpArgs false
set_option linter.unusedVariables false
namespace Fm
open Go Go.Eng
/-! ### the reader says what the parser says -/
section
variable {text : List UInt8} {T : List Tk} {e : Int} {I a b : Nat} {x s : List UInt8} {r : RS} {q : Tree × RS} {t : Tree}
def OffS (T : List Tk) (r : RS) : Prop := r.2 = true ∨ T.length ≤ r.1
def BadAt (T : List Tk) (e : Int) (b : Nat) (r : RS) : Prop := (r.2 = true ∧ ∃ y, T[r.1]? = some (b, y)) ∨ (T.length ≤ r.1 ∧ e = (b : Int))
theorem BadAt.off (h : BadAt T e b r) : OffS T r := by
  rcases h with h | h
  · exact .inl h.1
  · exact .inr h.1
theorem BadAt.set (h : BadAt T e b r) : BadAt T e b (r.1, true) := by
  rcases h with h | h
  · exact .inl ⟨rfl, h.2⟩
  · exact .inr h
theorem rword_off (h : OffS T r) : rword T r = [] := by
  unfold rword
  rcases h with h | h
  · rw [if_pos h]
  · split
    · rfl
    · rw [List.getElem?_eq_none h]
theorem rskip_off (h : OffS T r) (hs : s ≠ []) : rskip T r s = (r, false) := by
  unfold rskip; rw [rword_off h, if_neg (Ne.symm hs)]
theorem off_set {I : Nat} : OffS T (I, true) := .inl rfl
theorem rowSign_ne (i : Nat) : rowSign i ≠ [] := by intro h; have := rowSign_len i; rw [h] at this; cases this
theorem off_least {T : List Tk} {r : RS} (h : OffS T r) : rp T 1 .least r = some (zeroTree, (r.1, true)) := by
  rw [rp, if_pos (rword_off h)]
theorem off_row {T : List Tk} : ∀ (k i : Nat) (r : RS), i + k = 3 → OffS T r → ∃ m t, rp T m (.row i) r = some (t, (r.1, true))
  | 0, i, r, hi, h => ⟨2, zeroTree, by rw [rp, if_pos (by omega)]; exact off_least h⟩
  | k + 1, i, r, hi, h => by
    obtain ⟨m, t, hm⟩ := off_row k (i + 1) r (by omega) h
    refine ⟨m + 2, mkRow i [t], ?_⟩
    rw [rp, if_neg (by omega), rp_mono hm (by omega)]
    simp only [Option.bind_some]
    rw [rp, rskip_off off_set (rowSign_ne i)]
    rfl
theorem off_row' {T : List Tk} {i : Nat} {r : RS} (hi : i ≤ 3) (h : OffS T r) : ∃ m t, rp T m (.row i) r = some (t, (r.1, true)) := off_row (3 - i) i r (by omega) h
theorem off_implies {T : List Tk} {r : RS} (h : OffS T r) : ∃ m t, rp T m .implies r = some (t, (r.1, true)) := by
  obtain ⟨m, t, hm⟩ := off_row' (i := 0) (by omega) h
  refine ⟨m + 1, t, ?_⟩
  rw [rp, hm]
  simp only [Option.bind_some]
  rw [rskip_off off_set (by simp)]
  rfl
theorem off_choice {T : List Tk} {r : RS} (h : OffS T r) : ∃ m t, rp T m .choice r = some (t, (r.1, true)) := by
  obtain ⟨m, t, hm⟩ := off_implies h
  refine ⟨m + 1, t, ?_⟩
  rw [rp, hm]
  simp only [Option.bind_some]
  rw [rskip_off off_set (by simp)]
  simp only [Bool.false_eq_true, if_false, Option.bind_some]
  rw [rskip_off off_set (by simp)]
  rfl
theorem rword_at (h : AtTok text T e I a x) : rword T (I, false) = x := by
  unfold rword; simp only [Bool.false_eq_true, if_false, h.get]
theorem takes_sim (h : AtTok text T e I a x) (hs : s ≠ []) :
    (takes text a x s = .no → rskip T (I, false) s = ((I, false), false)) ∧
    (∀ a' x', takes text a x s = .yes a' x' → rskip T (I, false) s = ((I + 1, false), true) ∧ AtTok text T e (I + 1) a' x') ∧
    (∀ b, takes text a x s = .bad b → rskip T (I, false) s = ((I + 1, false), true) ∧ BadAt T e b (I + 1, false)) := by
  unfold takes rskip
  rw [rword_at h]
  by_cases hx : x = s
  · rw [if_pos hx, if_pos hx]
    have hn := h.next (by rw [hx]; exact hs)
    refine ⟨fun h => ?_, fun a' x' h => ?_, fun b h => ?_⟩
    · split at h <;> cases h
    · split at h
      · rename_i a2 x2 h2
        injection h with h3 h4
        subst h3; subst h4
        exact ⟨rfl, hn.1 _ _ h2⟩
      · cases h
    · split at h
      · cases h
      · rename_i b2 h2
        injection h with h3
        subst h3
        have := hn.2 _ h2
        exact ⟨rfl, .inr ⟨by show T.length ≤ I + 1; omega, this.2⟩⟩
  · rw [if_neg hx, if_neg hx]
    exact ⟨fun _ => rfl, fun _ _ h => (by cases h), fun _ h => (by cases h)⟩
def Rel (text : List UInt8) (T : List Tk) (e : Int) : PR → Tree × RS → Prop
  | .ok t a x, q => q.1 = t ∧ q.2.2 = false ∧ AtTok text T e q.2.1 a x
  | .bad b, q => BadAt T e b q.2
theorem Rel.ok' (h : Rel text T e (.ok t a x) q) : ∃ J, q = (t, (J, false)) ∧ AtTok text T e J a x := by
  obtain ⟨t', J, bd⟩ := q
  obtain ⟨h1, h2, h3⟩ := h
  exact ⟨J, by rw [show t' = t from h1, show bd = false from h2], h3⟩
end
def sameP (T : List Tk) (n : Nat) (r : RS) : Option (Tree × RS) := (rp T n .implies r).bind fun q1 => if (rskip T q1.2 [60, 61, 62]).2 then (rp T n .implies (rskip T q1.2 [60, 61, 62]).1).bind fun q2 => some (Tree.mk 9 [] [q1.1, q2.1], q2.2) else some q1
theorem sameP_mono {T : List Tk} {n m : Nat} {r : RS} {q} (h : sameP T n r = some q) (hm : n ≤ m) : sameP T m r = some q := by
  unfold sameP at h ⊢
  refine bind_mono h (fun a ha => rp_mono ha hm) fun a b h => ?_
  split at h
  · rename_i hs; rw [if_pos hs]
    exact bind_mono h (fun a ha => rp_mono ha hm) fun _ _ h => h
  · rename_i hs; rw [if_neg hs]; exact h
def Sim (text : List UInt8) (T : List Tk) (e : Int) (I : Nat) (x : List UInt8) (p : PR) : NT → Prop
  | .choice => ∃ m q, rp T m .choice (I, false) = some q ∧ Rel text T e p q
  | .same => ∃ m q, sameP T m (I, false) = some q ∧ Rel text T e p q
  | .implies => ∃ m q, rp T m .implies (I, false) = some q ∧ Rel text T e p q
  | .row i => i ≤ 3 → ∃ m q, rp T m (.row i) (I, false) = some q ∧ Rel text T e p q
  | .rest i acc => i ≤ 2 → ∃ m q, rp T m (.rest i acc) (I, false) = some q ∧ Rel text T e p q
  | .not => ∃ m q, rp T m .least (I, false) = some q ∧ Rel text T e p q
  | .least => x ≠ [33] → ∃ m q, rp T m .least (I, false) = some q ∧ Rel text T e p q
/-- What a token may be. -/
theorem tok_kinds {rest x : List UInt8} (h : tok rest = some x) : x = [] ∨ x ∈ signs ∨ x = [48] ∨ x = [49] ∨ isNameB x = true := by
  unfold tok at h
  split at h
  · injection h with h; exact .inl h.symm
  · split at h
    · rename_i s hs
      injection h with h
      subst h
      exact .inr (.inl (List.mem_of_find?_eq_some hs))
    · split at h
      · rename_i hw
        injection h with h
        subst h
        exact .inr (.inr hw)
      · cases h
theorem next_kinds {text x x' : List UInt8} {a a' : Nat} (h : next text a x = .ok a' x') : x' = [] ∨ x' ∈ signs ∨ x' = [48] ∨ x' = [49] ∨ isNameB x' = true := by
  simp only [next] at h
  split at h
  · rename_i y hy
    injection h with _ h
    subst h
    exact tok_kinds hy
  · cases h
theorem name_leaf {x : List UInt8} (h : isNameB x = true) : noLeaf x = false := by
  cases x with
  | nil => simp [isNameB] at h
  | cons c r =>
    simp only [isNameB, Bool.and_eq_true, List.all_cons] at h
    simp [noLeaf, h.2.1]
theorem sign_leaf {x : List UInt8} (h : x ∈ signs) : noLeaf x = true ∧ isNameB x = false ∧ x ≠ [48] ∧ x ≠ [49] := by
  have : ∀ x ∈ signs, noLeaf x = true ∧ isNameB x = false ∧ x ≠ [48] ∧ x ≠ [49] := by decide
  exact this x h
/-- Every token in the row is of a kind. -/
def Kinds (x : List UInt8) : Prop := x = [] ∨ x ∈ signs ∨ x = [48] ∨ x = [49] ∨ isNameB x = true
theorem sim {text : List UInt8} {T : List Tk} {e : Int} (hk : ∀ (I a : Nat) (x : List UInt8), T[I]? = some (a, x) → Kinds x) : ∀ (n : Nat) (nt : NT) (a : Nat) (x : List UInt8) (p : PR) (I : Nat), AtTok text T e I a x → parse text n nt a x = some p → Sim text T e I x p nt := by
  intro n
  induction n with
  | zero => intro nt a x p I _ h; simp [parse] at h
  | succ n ih =>
    intro nt a x p I hat h
    cases nt with
    | choice =>
      simp only [parse] at h
      show ∃ m q, _ ∧ _
      rcases bindP_ok h with ⟨b, h1, rfl⟩ | ⟨t1, a1, x1, h1, h⟩
      · obtain ⟨m, q, h2, hb⟩ := ih .same _ _ _ I hat h1
        refine ⟨m + 1, q, ?_, hb⟩
        rw [rp]
        have h2' := h2
        unfold sameP at h2'
        rw [← Option.bind_assoc, h2']
        simp only [Option.bind_some]
        rw [rskip_off hb.off (by simp)]; rfl
      · obtain ⟨m, q, h2, hb⟩ := ih .same _ _ _ I hat h1
        obtain ⟨J, rfl, hat1⟩ := hb.ok'
        have ht := takes_sim (s := [63]) hat1 (by simp)
        have hh := bindT_ok h
        clear h
        rcases hh with ⟨h3, h⟩ | ⟨a2, x2, h3, h⟩ | ⟨b, h3, rfl⟩
        · injection h with h; subst h
          refine ⟨m + 1, _, ?_, hb⟩
          rw [rp]
          have h2' := h2
          unfold sameP at h2'
          rw [← Option.bind_assoc, h2']
          simp only [Option.bind_some]
          rw [ht.1 h3]; rfl
        · obtain ⟨hs, hat2⟩ := ht.2.1 _ _ h3
          rcases bindP_ok h with ⟨b, h4, rfl⟩ | ⟨t2, a3, x3, h4, h⟩
          · obtain ⟨m2, q2, h5, hb2⟩ := ih .choice _ _ _ _ hat2 h4
            refine ⟨m + m2 + 1, (t1, (q2.2.1, true)), ?_, hb2.set⟩
            rw [rp]
            have h2' := sameP_mono h2 (show m ≤ m + m2 by omega)
            unfold sameP at h2'
            rw [← Option.bind_assoc, h2']
            simp only [Option.bind_some]
            rw [hs]
            simp only [if_true]
            rw [rp_mono h5 (by omega)]
            simp only [Option.bind_some]
            rw [rskip_off hb2.off (by simp)]; rfl
          · obtain ⟨m2, q2, h5, hb2⟩ := ih .choice _ _ _ _ hat2 h4
            obtain ⟨J2, rfl, hat3⟩ := hb2.ok'
            have ht2 := takes_sim (s := [58]) hat3 (by simp)
            have hh := bindT_ok h
            clear h
            rcases hh with ⟨h6, h⟩ | ⟨a4, x4, h6, h⟩ | ⟨b, h6, rfl⟩
            · injection h with h; subst h
              refine ⟨m + m2 + 1, (t1, (J2, true)), ?_, .inl ⟨rfl, _, hat3.get⟩⟩
              rw [rp]
              have h2' := sameP_mono h2 (show m ≤ m + m2 by omega)
              unfold sameP at h2'
              rw [← Option.bind_assoc, h2']
              simp only [Option.bind_some]
              rw [hs]
              simp only [if_true]
              rw [rp_mono h5 (by omega)]
              simp only [Option.bind_some]
              rw [ht2.1 h6]; rfl
            · obtain ⟨hs2, hat4⟩ := ht2.2.1 _ _ h6
              have fin : ∀ (m3 : Nat) (q3 : Tree × RS), rp T m3 .choice (J2 + 1, false) = some q3 → rp T (m + m2 + m3 + 1) .choice (I, false) = some (Tree.mk 10 [] [t1, t2, q3.1], q3.2) := fun m3 q3 h8 => by
                rw [rp]
                have h2' := sameP_mono h2 (show m ≤ m + m2 + m3 by omega)
                unfold sameP at h2'
                rw [← Option.bind_assoc, h2']
                simp only [Option.bind_some]
                rw [hs]
                simp only [if_true]
                rw [rp_mono h5 (by omega)]
                simp only [Option.bind_some]
                rw [hs2]
                simp only [if_true]
                rw [rp_mono h8 (by omega)]
                rfl
              rcases bindP_ok h with ⟨b, h7, rfl⟩ | ⟨t3, a5, x5, h7, h⟩
              · obtain ⟨m3, q3, h8, hb3⟩ := ih .choice _ _ _ _ hat4 h7
                exact ⟨_, _, fin m3 q3 h8, hb3⟩
              · obtain ⟨m3, q3, h8, hb3⟩ := ih .choice _ _ _ _ hat4 h7
                obtain ⟨J3, rfl, hat5⟩ := hb3.ok'
                injection h with h; subst h
                exact ⟨_, _, fin m3 _ h8, rfl, rfl, hat5⟩
            · obtain ⟨hs2, hbad⟩ := ht2.2.2 _ h6
              obtain ⟨m3, t3, h8⟩ := off_choice hbad.off
              refine ⟨m + m2 + m3 + 1, (Tree.mk 10 [] [t1, t2, t3], (J2 + 1, true)), ?_, hbad.set⟩
              rw [rp]
              have h2' := sameP_mono h2 (show m ≤ m + m2 + m3 by omega)
              unfold sameP at h2'
              rw [← Option.bind_assoc, h2']
              simp only [Option.bind_some]
              rw [hs]
              simp only [if_true]
              rw [rp_mono h5 (by omega)]
              simp only [Option.bind_some]
              rw [hs2]
              simp only [if_true]
              rw [rp_mono h8 (by omega)]
              rfl
        · obtain ⟨hs, hbad⟩ := ht.2.2 _ h3
          obtain ⟨m2, t2, h5⟩ := off_choice hbad.off
          refine ⟨m + m2 + 1, (t1, (J + 1, true)), ?_, hbad.set⟩
          rw [rp]
          have h2' := sameP_mono h2 (show m ≤ m + m2 by omega)
          unfold sameP at h2'
          rw [← Option.bind_assoc, h2']
          simp only [Option.bind_some]
          rw [hs]
          simp only [if_true]
          rw [rp_mono h5 (by omega)]
          simp only [Option.bind_some]
          rw [rskip_off off_set (by simp)]; rfl
    | same =>
      simp only [parse] at h
      show ∃ m q, _ ∧ _
      rcases bindP_ok h with ⟨b, h1, rfl⟩ | ⟨t1, a1, x1, h1, h⟩
      · obtain ⟨m, q, h2, hb⟩ := ih .implies _ _ _ I hat h1
        refine ⟨m, q, ?_, hb⟩
        rw [sameP, h2]
        simp only [Option.bind_some]
        rw [rskip_off hb.off (by simp)]; rfl
      · obtain ⟨m, q, h2, hb⟩ := ih .implies _ _ _ I hat h1
        obtain ⟨J, rfl, hat1⟩ := hb.ok'
        have ht := takes_sim (s := [60, 61, 62]) hat1 (by simp)
        have hh := bindT_ok h
        clear h
        rcases hh with ⟨h3, h⟩ | ⟨a2, x2, h3, h⟩ | ⟨b, h3, rfl⟩
        · injection h with h; subst h
          refine ⟨m, _, ?_, hb⟩
          rw [sameP, h2]
          simp only [Option.bind_some]
          rw [ht.1 h3]; rfl
        · obtain ⟨hs, hat2⟩ := ht.2.1 _ _ h3
          have fin : ∀ (m2 : Nat) (q2 : Tree × RS), rp T m2 .implies (J + 1, false) = some q2 → sameP T (m + m2) (I, false) = some (Tree.mk 9 [] [t1, q2.1], q2.2) := fun m2 q2 h8 => by
            rw [sameP, rp_mono h2 (by omega)]
            simp only [Option.bind_some]
            rw [hs]
            simp only [if_true]
            rw [rp_mono h8 (by omega)]; rfl
          rcases bindP_ok h with ⟨b, h4, rfl⟩ | ⟨t2, a3, x3, h4, h⟩
          · obtain ⟨m2, q2, h5, hb2⟩ := ih .implies _ _ _ _ hat2 h4
            exact ⟨_, _, fin m2 q2 h5, hb2⟩
          · obtain ⟨m2, q2, h5, hb2⟩ := ih .implies _ _ _ _ hat2 h4
            obtain ⟨J2, rfl, hat3⟩ := hb2.ok'
            injection h with h; subst h
            exact ⟨_, _, fin m2 _ h5, rfl, rfl, hat3⟩
        · obtain ⟨hs, hbad⟩ := ht.2.2 _ h3
          obtain ⟨m2, t2, h5⟩ := off_implies hbad.off
          refine ⟨m + m2, (Tree.mk 9 [] [t1, t2], (J + 1, true)), ?_, hbad.set⟩
          rw [sameP, rp_mono h2 (by omega)]
          simp only [Option.bind_some]
          rw [hs]
          simp only [if_true]
          rw [rp_mono h5 (by omega)]; rfl
    | implies =>
      simp only [parse] at h
      show ∃ m q, _ ∧ _
      rcases bindP_ok h with ⟨b, h1, rfl⟩ | ⟨t1, a1, x1, h1, h⟩
      · obtain ⟨m, q, h2, hb⟩ := ih (.row 0) _ _ _ I hat h1 (by omega)
        refine ⟨m + 1, q, ?_, hb⟩
        rw [rp, h2]
        simp only [Option.bind_some]
        rw [rskip_off hb.off (by simp)]; rfl
      · obtain ⟨m, q, h2, hb⟩ := ih (.row 0) _ _ _ I hat h1 (by omega)
        obtain ⟨J, rfl, hat1⟩ := hb.ok'
        have ht := takes_sim (s := [61, 62]) hat1 (by simp)
        have hh := bindT_ok h
        clear h
        rcases hh with ⟨h3, h⟩ | ⟨a2, x2, h3, h⟩ | ⟨b, h3, rfl⟩
        · injection h with h; subst h
          refine ⟨m + 1, _, ?_, hb⟩
          rw [rp, h2]
          simp only [Option.bind_some]
          rw [ht.1 h3]; rfl
        · obtain ⟨hs, hat2⟩ := ht.2.1 _ _ h3
          have fin : ∀ (m2 : Nat) (q2 : Tree × RS), rp T m2 .implies (J + 1, false) = some q2 → rp T (m + m2 + 1) .implies (I, false) = some (Tree.mk 8 [] [t1, q2.1], q2.2) := fun m2 q2 h8 => by
            rw [rp, rp_mono h2 (by omega)]
            simp only [Option.bind_some]
            rw [hs]
            simp only [if_true]
            rw [rp_mono h8 (by omega)]; rfl
          rcases bindP_ok h with ⟨b, h4, rfl⟩ | ⟨t2, a3, x3, h4, h⟩
          · obtain ⟨m2, q2, h5, hb2⟩ := ih .implies _ _ _ _ hat2 h4
            exact ⟨_, _, fin m2 q2 h5, hb2⟩
          · obtain ⟨m2, q2, h5, hb2⟩ := ih .implies _ _ _ _ hat2 h4
            obtain ⟨J2, rfl, hat3⟩ := hb2.ok'
            injection h with h; subst h
            exact ⟨_, _, fin m2 _ h5, rfl, rfl, hat3⟩
        · obtain ⟨hs, hbad⟩ := ht.2.2 _ h3
          obtain ⟨m2, t2, h5⟩ := off_implies hbad.off
          refine ⟨m + m2 + 1, (Tree.mk 8 [] [t1, t2], (J + 1, true)), ?_, hbad.set⟩
          rw [rp, rp_mono h2 (by omega)]
          simp only [Option.bind_some]
          rw [hs]
          simp only [if_true]
          rw [rp_mono h5 (by omega)]; rfl
    | row i =>
      simp only [parse] at h
      intro hi
      split at h
      · rename_i h3
        obtain ⟨m, q, h2, hb⟩ := ih .not _ _ _ I hat h
        exact ⟨m + 1, q, by rw [rp, if_pos h3]; exact h2, hb⟩
      · rename_i h3
        rcases bindP_ok h with ⟨b, h1, rfl⟩ | ⟨t1, a1, x1, h1, h⟩
        · obtain ⟨m, q, h2, hb⟩ := ih (.row (i + 1)) _ _ _ I hat h1 (by omega)
          refine ⟨m + 2, (mkRow i [q.1], q.2), ?_, hb⟩
          rw [rp, if_neg h3, rp_mono h2 (by omega)]
          simp only [Option.bind_some]
          rw [rp, rskip_off hb.off (rowSign_ne i)]; rfl
        · obtain ⟨m, q, h2, hb⟩ := ih (.row (i + 1)) _ _ _ I hat h1 (by omega)
          obtain ⟨J, rfl, hat1⟩ := hb.ok'
          obtain ⟨m2, q2, h4, hb2⟩ := ih (.rest i [t1]) _ _ _ J hat1 h (by omega)
          refine ⟨m + m2 + 1, q2, ?_, hb2⟩
          rw [rp, if_neg h3, rp_mono h2 (by omega)]
          simp only [Option.bind_some]
          exact rp_mono h4 (by omega)
    | rest i acc =>
      simp only [parse] at h
      intro hi
      have ht := takes_sim (s := rowSign i) hat (rowSign_ne i)
      have hh := bindT_ok h
      clear h
      rcases hh with ⟨h3, h⟩ | ⟨a2, x2, h3, h⟩ | ⟨b, h3, rfl⟩
      · injection h with h; subst h
        exact ⟨1, _, by rw [rp, ht.1 h3]; rfl, rfl, rfl, hat⟩
      · obtain ⟨hs, hat2⟩ := ht.2.1 _ _ h3
        rcases bindP_ok h with ⟨b, h4, rfl⟩ | ⟨t2, a3, x3, h4, h⟩
        · obtain ⟨m, q, h2, hb⟩ := ih (.row (i + 1)) _ _ _ _ hat2 h4 (by omega)
          refine ⟨m + 2, (mkRow i (acc ++ [q.1]), q.2), ?_, hb⟩
          rw [rp, hs]
          simp only [if_true]
          rw [rp_mono h2 (by omega)]
          simp only [Option.bind_some]
          rw [rp, rskip_off hb.off (rowSign_ne i)]; rfl
        · obtain ⟨m, q, h2, hb⟩ := ih (.row (i + 1)) _ _ _ _ hat2 h4 (by omega)
          obtain ⟨J, rfl, hat3⟩ := hb.ok'
          obtain ⟨m2, q2, h5, hb2⟩ := ih (.rest i (acc ++ [t2])) _ _ _ J hat3 h (by omega)
          refine ⟨m + m2 + 1, q2, ?_, hb2⟩
          rw [rp, hs]
          simp only [if_true]
          rw [rp_mono h2 (by omega)]
          simp only [Option.bind_some]
          exact rp_mono h5 (by omega)
      · obtain ⟨hs, hbad⟩ := ht.2.2 _ h3
        obtain ⟨m, t2, h5⟩ := off_row' (i := i + 1) (by omega) hbad.off
        refine ⟨m + 2, (mkRow i (acc ++ [t2]), (I + 1, true)), ?_, hbad.set⟩
        rw [rp, hs]
        simp only [if_true]
        rw [rp_mono h5 (by omega)]
        simp only [Option.bind_some]
        rw [rp, rskip_off off_set (rowSign_ne i)]; rfl
    | not =>
      simp only [parse] at h
      show ∃ m q, _ ∧ _
      have ht := takes_sim (s := [33]) hat (by simp)
      have hh := bindT_ok h
      clear h
      rcases hh with ⟨h3, h⟩ | ⟨a2, x2, h3, h⟩ | ⟨b, h3, rfl⟩
      · refine ih .least _ _ _ I hat h (fun hx => ?_)
        subst hx
        simp only [takes, if_true] at h3
        split at h3 <;> cases h3
      · have hx := takes_word h3
        subst hx
        obtain ⟨hs, hat2⟩ := ht.2.1 _ _ h3
        have fin : ∀ (m2 : Nat) (q2 : Tree × RS), rp T m2 .least (I + 1, false) = some q2 → rp T (m2 + 1) .least (I, false) = some (Tree.mk 4 [] [q2.1], q2.2) := fun m2 q2 h8 => by
          rw [rp, rword_at hat, if_neg (by simp), if_pos rfl, h8]; rfl
        rcases bindP_ok h with ⟨b, h4, rfl⟩ | ⟨t2, a3, x3, h4, h⟩
        · obtain ⟨m2, q2, h5, hb2⟩ := ih .not _ _ _ _ hat2 h4
          exact ⟨_, _, fin m2 q2 h5, hb2⟩
        · obtain ⟨m2, q2, h5, hb2⟩ := ih .not _ _ _ _ hat2 h4
          obtain ⟨J2, rfl, hat3⟩ := hb2.ok'
          injection h with h; subst h
          exact ⟨_, _, fin m2 _ h5, rfl, rfl, hat3⟩
      · have hx : x = [33] := by
          unfold takes at h3
          split at h3
          · assumption
          · cases h3
        subst hx
        obtain ⟨hs, hbad⟩ := ht.2.2 _ h3
        refine ⟨2, (Tree.mk 4 [] [zeroTree], (I + 1, true)), ?_, hbad.set⟩
        rw [rp, rword_at hat, if_neg (by simp), if_pos rfl, off_least hbad.off]; rfl
    | least =>
      simp only [parse] at h
      intro hx33
      have ht := takes_sim (s := [40]) hat (by simp)
      have hkx := hk I a x hat.get
      have hh := bindT_ok h
      clear h
      rcases hh with ⟨h3, h⟩ | ⟨a2, x2, h3, h⟩ | ⟨b, h3, rfl⟩
      · have hx40 : x ≠ [40] := fun hx => by
          subst hx
          simp only [takes, if_true] at h3
          split at h3 <;> cases h3
        split at h
        · rename_i hnl
          injection h with h; subst h
          refine ⟨1, (zeroTree, (I, true)), ?_, .inl ⟨rfl, _, hat.get⟩⟩
          rw [rp, rword_at hat]
          by_cases hx0 : x = []
          · rw [if_pos hx0]
          · rw [if_neg hx0, if_neg hx33, if_neg hx40]
            have h48 : x ≠ [48] := fun hx => by subst hx; exact absurd hnl (by decide)
            have h49 : x ≠ [49] := fun hx => by subst hx; exact absurd hnl (by decide)
            have hnn : ¬ isNameB x = true := fun hx => by rw [name_leaf hx] at hnl; cases hnl
            rw [if_neg h48, if_neg h49, if_neg hnn]
        · rename_i hnl
          have hnl : noLeaf x = false := by simpa using hnl
          have hx0 : x ≠ [] := fun hx => by subst hx; exact absurd hnl (by decide)
          have hn := hat.next hx0
          have hstep : rp T 1 .least (I, false) = some (leaf x, (I + 1, false)) := by
            rw [rp, rword_at hat, if_neg hx0, if_neg hx33, if_neg hx40]
            rcases hkx with h0 | h0 | h0 | h0 | h0
            · exact absurd h0 hx0
            · rw [(sign_leaf h0).1] at hnl; cases hnl
            · rw [if_pos h0, leaf, if_pos h0]
            · rw [if_neg (by rw [h0]; decide), if_pos h0, leaf, if_neg (by rw [h0]; decide), if_pos h0]
            · by_cases h48 : x = [48]
              · rw [if_pos h48, leaf, if_pos h48]
              · by_cases h49 : x = [49]
                · rw [if_neg h48, if_pos h49, leaf, if_neg h48, if_pos h49]
                · rw [if_neg h48, if_neg h49, if_pos h0, leaf, if_neg h48, if_neg h49]
          split at h
          · rename_i b hb
            injection h with h; subst h
            have := hn.2 _ hb
            exact ⟨1, _, hstep, .inr ⟨by show T.length ≤ I + 1; omega, this.2⟩⟩
          · rename_i a1 x1 hb
            injection h with h; subst h
            exact ⟨1, _, hstep, rfl, rfl, hn.1 _ _ hb⟩
      · have hx := takes_word h3
        subst hx
        obtain ⟨hs, hat2⟩ := ht.2.1 _ _ h3
        rcases bindP_ok h with ⟨b, h4, rfl⟩ | ⟨t2, a3, x3, h4, h⟩
        · obtain ⟨m2, q2, h5, hb2⟩ := ih .choice _ _ _ _ hat2 h4
          refine ⟨m2 + 1, (q2.1, (q2.2.1, true)), ?_, hb2.set⟩
          rw [rp, rword_at hat, if_neg (by simp), if_neg (by simp), if_pos rfl, h5]
          simp only [Option.bind_some]
          rw [rskip_off hb2.off (by simp)]; rfl
        · obtain ⟨m2, q2, h5, hb2⟩ := ih .choice _ _ _ _ hat2 h4
          obtain ⟨J2, rfl, hat3⟩ := hb2.ok'
          have ht2 := takes_sim (s := [41]) hat3 (by simp)
          have fin : rp T (m2 + 1) .least (I, false) = some (if (rskip T (J2, false) [41]).2 then (t2, (rskip T (J2, false) [41]).1) else (t2, (J2, true))) := by
            rw [rp, rword_at hat, if_neg (by simp), if_neg (by simp), if_pos rfl, h5]
            simp only [Option.bind_some]
            split <;> rfl
          have hh := bindT_ok h
          clear h
          rcases hh with ⟨h6, h⟩ | ⟨a4, x4, h6, h⟩ | ⟨b, h6, rfl⟩
          · injection h with h; subst h
            rw [ht2.1 h6] at fin
            exact ⟨_, _, fin, .inl ⟨rfl, _, hat3.get⟩⟩
          · obtain ⟨hs2, hat4⟩ := ht2.2.1 _ _ h6
            injection h with h; subst h
            rw [hs2] at fin
            exact ⟨_, _, fin, rfl, rfl, hat4⟩
          · obtain ⟨hs2, hbad⟩ := ht2.2.2 _ h6
            rw [hs2] at fin
            exact ⟨_, _, fin, hbad⟩
      · have hx : x = [40] := by
          unfold takes at h3
          split at h3
          · assumption
          · cases h3
        subst hx
        obtain ⟨hs, hbad⟩ := ht.2.2 _ h3
        obtain ⟨m2, t2, h5⟩ := off_choice hbad.off
        refine ⟨m2 + 1, (t2, (I + 1, true)), ?_, hbad.set⟩
        rw [rp, rword_at hat, if_neg (by simp), if_neg (by simp), if_pos rfl, h5]
        simp only [Option.bind_some]
        rw [rskip_off off_set (by simp)]; rfl
/-- What the reference answers of a text that is not too long, out of its tokens and what its reader says. -/
def refTop (text : List UInt8) (T : List Tk) (e : Int) (q : Tree × RS) : Tree × Int × Int :=
  if q.2.1 < T.length ∧ (q.2.2 = true ∨ (T.getD q.2.1 (0, [])).2 ≠ []) then (zeroTree, ((T.getD q.2.1 (0, [])).1 : Int), 4)
  else if 0 ≤ e then (zeroTree, e, 4) else if validB q.1 then (q.1, 0, 0) else (zeroTree, (text.length : Int), 5)
theorem toks_kinds {text : List UInt8} : ∀ (n a : Nat) (x : List UInt8) (I b : Nat) (y : List UInt8), (toks text n a x).1[I]? = some (b, y) → Kinds y := by
  intro n
  induction n with
  | zero => intro a x I b y h; simp [toks] at h
  | succ n ih =>
    intro a x I b y h
    simp only [toks] at h
    split at h
    · simp at h
    · rename_i a' x' hn
      split at h
      · cases I with
        | zero => simp at h; exact .inl h.2
        | succ I => simp at h
      · cases I with
        | zero =>
          simp at h
          rw [← h.2]; exact next_kinds hn
        | succ I => exact ih a' x' I b y (by simpa using h)
theorem ref_top (text : List UInt8) (hl : ¬ 65536 < text.length) : ∃ m q, rp (toks text (text.length + 2) 0 []).1 m .choice (0, false) = some q ∧
    refTop text (toks text (text.length + 2) 0 []).1 (toks text (text.length + 2) 0 []).2 q = ((top text).1, ((top text).2.1 : Int), (top text).2.2) := by
  have hgen := fun a' x' h => toks_at (text := text) (text.length + 2) 0 [] [] a' x' (by simp) (by omega) (fun _ => ⟨rfl, by omega⟩) h
  have hkinds := toks_kinds (text := text) (text.length + 2) 0 []
  unfold top
  rw [if_neg hl]
  cases h : next text 0 [] with
  | bad a =>
    have ht : toks text (text.length + 2) 0 [] = ([], (a : Int)) := by rw [toks, h]
    rw [ht]
    obtain ⟨m, t, hm⟩ := off_choice (T := []) (r := (0, false)) (.inr (Nat.le_refl _))
    refine ⟨m, _, hm, ?_⟩
    simp [refTop]
  | ok a x =>
    have hat := hgen a x h
    simp only [List.nil_append, List.length_nil] at hat
    have hle := next_le (at_ := 0) (wd := []) (by simp) h
    obtain ⟨p, hp⟩ := parse_total (text := text) (fuel text) .choice a x hle.2 (by simp only [rank, fuel]; omega)
    obtain ⟨m, q, hm, hr⟩ := sim (fun I a x h => hkinds I a x h) _ .choice _ _ _ _ hat hp
    refine ⟨m, q, hm, ?_⟩
    simp only [hp]
    revert hr
    generalize hT : (toks text (text.length + 2) 0 []).1 = T
    generalize he : (toks text (text.length + 2) 0 []).2 = e
    intro hr
    cases p with
    | bad b =>
      simp only
      by_cases hlt : q.2.1 < T.length
      · rcases hr with hr | hr
        · obtain ⟨y, hy⟩ := hr.2
          have hg : T.getD q.2.1 (0, []) = (b, y) := by rw [List.getD_eq_getElem?_getD, hy]; rfl
          rw [refTop, if_pos ⟨hlt, .inl hr.1⟩, hg]
        · omega
      · rw [refTop, if_neg (fun hh => hlt hh.1)]
        rcases hr with hr | hr
        · obtain ⟨y, hy⟩ := hr.2
          exact absurd (List.getElem?_eq_some_iff.1 hy).1 hlt
        · rw [if_pos (by rw [hr.2]; omega), hr.2]
    | ok t b y =>
      obtain ⟨J, rfl, hat1⟩ := hr.ok'
      have hg : T.getD J (0, []) = (b, y) := by rw [List.getD_eq_getElem?_getD, hat1.get]; rfl
      have hlt : J < T.length := (List.getElem?_eq_some_iff.1 hat1.get).1
      simp only
      by_cases hy : y = []
      · subst hy
        have hlast := hat1.last
        rw [refTop, if_neg (by rw [hg]; simp), if_neg (by omega)]
        simp only [ne_eq, not_true_eq_false, if_false]
        split <;> rfl
      · rw [refTop, if_pos ⟨hlt, .inr (by rw [hg]; exact hy)⟩, hg]
        simp only [ne_eq, hy, not_false_eq_true, if_true]
end Fm

namespace Fm
open Go Go.Eng
theorem rskip_ge {T : List Tk} {r : RS} {s : List UInt8} : r.1 ≤ (rskip T r s).1.1 := by
  unfold rskip; split <;> simp
/-- The reader goes forward. -/
theorem rp_ge {T : List Tk} : ∀ (n : Nat) (nt : RN) (r : RS) (q : Tree × RS), rp T n nt r = some q → r.1 ≤ q.2.1 := by
  intro n
  induction n with
  | zero => intro nt r q h; simp [rp] at h
  | succ n ih =>
    intro nt r q h
    cases nt with
    | choice =>
      rw [rp] at h
      obtain ⟨q1, h1, h⟩ := Option.bind_eq_some_iff.1 h
      have g1 := ih _ _ _ h1
      obtain ⟨q2, h2, h⟩ := Option.bind_eq_some_iff.1 h
      have g2 : q1.2.1 ≤ q2.2.1 := by
        split at h2
        · obtain ⟨q3, h3, h2⟩ := Option.bind_eq_some_iff.1 h2
          have g3 := ih _ _ _ h3
          injection h2 with h2; subst h2
          exact Nat.le_trans rskip_ge g3
        · injection h2 with h2; subst h2; exact Nat.le_refl _
      split at h
      · obtain ⟨q3, h3, h⟩ := Option.bind_eq_some_iff.1 h
        have g3 := Nat.le_trans rskip_ge (ih _ _ _ h3)
        split at h
        · obtain ⟨q4, h4, h⟩ := Option.bind_eq_some_iff.1 h
          have g4 := Nat.le_trans rskip_ge (ih _ _ _ h4)
          injection h with h; subst h
          exact Nat.le_trans g1 (Nat.le_trans g2 (Nat.le_trans g3 g4))
        · injection h with h; subst h; exact Nat.le_trans g1 (Nat.le_trans g2 g3)
      · injection h with h; subst h; exact Nat.le_trans g1 g2
    | implies =>
      rw [rp] at h
      obtain ⟨q1, h1, h⟩ := Option.bind_eq_some_iff.1 h
      have g1 := ih _ _ _ h1
      split at h
      · obtain ⟨q3, h3, h⟩ := Option.bind_eq_some_iff.1 h
        have g3 := Nat.le_trans rskip_ge (ih _ _ _ h3)
        injection h with h; subst h; exact Nat.le_trans g1 g3
      · injection h with h; subst h; exact g1
    | row i =>
      rw [rp] at h
      split at h
      · exact ih _ _ _ h
      · obtain ⟨q1, h1, h⟩ := Option.bind_eq_some_iff.1 h
        exact Nat.le_trans (ih _ _ _ h1) (ih _ _ _ h)
    | rest i acc =>
      rw [rp] at h
      split at h
      · obtain ⟨q1, h1, h⟩ := Option.bind_eq_some_iff.1 h
        exact Nat.le_trans rskip_ge (Nat.le_trans (ih _ _ _ h1) (ih _ _ _ h))
      · injection h with h; subst h; exact Nat.le_refl _
    | least =>
      rw [rp] at h
      split at h
      · injection h with h; subst h; exact Nat.le_refl _
      split at h
      · obtain ⟨q1, h1, h⟩ := Option.bind_eq_some_iff.1 h
        have g1 := ih _ _ _ h1
        injection h with h; subst h
        exact Nat.le_trans (Nat.le_succ _) g1
      split at h
      · obtain ⟨q1, h1, h⟩ := Option.bind_eq_some_iff.1 h
        have g1 := Nat.le_trans (Nat.le_succ _) (ih _ _ _ h1)
        split at h
        · injection h with h; subst h; exact Nat.le_trans g1 rskip_ge
        · injection h with h; subst h; exact g1
      split at h
      · injection h with h; subst h; exact Nat.le_succ _
      split at h
      · injection h with h; subst h; exact Nat.le_succ _
      split at h
      · injection h with h; subst h; exact Nat.le_succ _
      · injection h with h; subst h; exact Nat.le_refl _
end Fm

namespace Fm
open Go Go.Eng
/-- The tokens from a place on, as the reference goes through the text. -/
def scanF (text : List UInt8) : Nat → Nat → List Tk × Int
  | 0, _ => ([], 0)
  | n + 1, i => if text.length ≤ i then ([(text.length, [])], -1) else if text[i]? = some 32 then scanF text n (i + 1) else match tok (text.drop i) with
    | none => ([], (i : Int))
    | some x => ((i, x) :: (scanF text n (i + x.length)).1, (scanF text n (i + x.length)).2)
theorem scan_blanks {text : List UInt8} : ∀ (k n i : Nat), k ≤ blanks (text.drop i) → scanF text (n + k) i = scanF text n (i + k)
  | 0, n, i, _ => rfl
  | k + 1, n, i, h => by
    have hb := blanks_le (text.drop i)
    have hlt : i < text.length := by simp at hb; omega
    have h0 := (blanks_get (text.drop i) 0 (by omega)).2 (by omega)
    have hc : text[i]? = some 32 := by simpa using h0
    rw [show n + (k + 1) = (n + k) + 1 by omega, scanF, if_neg (by omega), if_pos hc]
    have hk : k ≤ blanks (text.drop (i + 1)) := by
      have hd : text.drop i = 32 :: text.drop (i + 1) := by
        rw [List.drop_eq_getElem_cons hlt]
        have := (List.getElem?_eq_some_iff.1 hc).2
        rw [this]
      rw [hd] at h
      simp only [blanks, if_true] at h
      omega
    rw [scan_blanks k n (i + 1) hk]
    congr 1
    omega
theorem tok_ne {rest x : List UInt8} (h : tok rest = some x) (hr : rest ≠ []) : x ≠ [] := by
  unfold tok at h
  rw [if_neg hr] at h
  split at h
  · rename_i s hs
    injection h with h
    subst h
    have hm := List.mem_of_find?_eq_some hs
    intro h0; subst h0
    exact absurd hm (by decide)
  · split at h
    · rename_i hw
      injection h with h
      subst h
      intro h0
      rw [h0] at hw
      simp [isNameB] at hw
    · cases h
theorem scan_toks {text : List UInt8} : ∀ (n a : Nat) (x : List UInt8) (m : Nat), a + x.length ≤ text.length → text.length - a < n → (x = [] → a = 0 ∧ text.length + 1 < n) → text.length - (a + x.length) < m →
    toks text n a x = scanF text m (a + x.length) := by
  intro n
  induction n with
  | zero => intro a x m _ h; omega
  | succ n ih =>
    intro a x m hle hn hx0 hm
    have hb := blanks_le (text.drop (a + x.length))
    have hbl : blanks (text.drop (a + x.length)) ≤ text.length - (a + x.length) := by simpa using hb
    obtain ⟨m', rfl⟩ : ∃ m', m = m' + 1 + blanks (text.drop (a + x.length)) := ⟨m - 1 - blanks (text.drop (a + x.length)), by omega⟩
    rw [scan_blanks _ _ _ (Nat.le_refl _)]
    simp only [toks, next]
    obtain ⟨q, hq⟩ : ∃ q, q = a + x.length + blanks (text.drop (a + x.length)) := ⟨_, rfl⟩
    have hql : q ≤ text.length := by omega
    rw [← hq]
    rw [scanF]
    by_cases hend : text.length ≤ q
    · rw [if_pos hend]
      have hqe : q = text.length := by omega
      have hd : text.drop q = [] := List.drop_of_length_le hend
      rw [hd]
      simp [tok, hqe]
    · rw [if_neg hend]
      have hnb : text[q]? ≠ some 32 := by
        intro hc
        have h1 := (blanks_get (text.drop (a + x.length)) (blanks (text.drop (a + x.length))) (Nat.le_refl _)).1 (by rw [List.getElem?_drop, ← hq]; exact hc)
        omega
      rw [if_neg hnb]
      have hdne : text.drop q ≠ [] := by
        intro h0
        have : (text.drop q).length = 0 := by rw [h0]; rfl
        simp at this; omega
      cases ht : tok (text.drop q) with
      | none => simp
      | some y =>
        have hy := tok_ne ht hdne
        have hyl := tok_le ht
        have hypos : 1 ≤ y.length := List.length_pos_iff.2 hy
        simp only [List.length_drop] at hyl
        have hprog : text.length - q < n := by
          by_cases h0 : x = []
          · have := hx0 h0; omega
          · have : 1 ≤ x.length := List.length_pos_iff.2 h0
            omega
        simp only
        rw [if_neg hy, ih q y m' (by omega) hprog (fun h => absurd h hy) (by omega)]
theorem scan_all (text : List UInt8) : toks text (text.length + 2) 0 [] = scanF text (text.length + 1) 0 :=
  scan_toks (text.length + 2) 0 [] (text.length + 1) (by simp) (by omega) (fun _ => ⟨rfl, by omega⟩) (by simp)
theorem scan_len {text : List UInt8} : ∀ (n i : Nat), (scanF text n i).1.length ≤ n := by
  intro n
  induction n with
  | zero => intro i; simp [scanF]
  | succ n ih =>
    intro i
    rw [scanF]
    split
    · simp
    split
    · have := ih (i + 1); omega
    split
    · simp
    · rename_i x _
      have := ih (i + x.length)
      simp; omega
/-- Signs, one after the other. -/
theorem find_take_none {p : List UInt8 → Bool} {k : Nat} {s : List UInt8} (hs : signs[k]? = some s) : (signs.take (k + 1)).find? p = match (signs.take k).find? p with | some x => some x | none => if p s then some s else none := by
  rw [List.take_add_one, hs, List.find?_append]
  cases h : (signs.take k).find? p with
  | some x => rfl
  | none =>
    simp only [Option.toList, List.find?_cons, List.find?_nil, Option.none_or]
    cases p s <;> rfl
theorem find_sign_ne {p : List UInt8 → Bool} {k : Nat} {s : List UInt8} (h : (signs.take k).find? p = some s) : s ≠ [] := by
  have hm := List.mem_of_mem_take (List.mem_of_find?_eq_some h)
  intro h0; subst h0
  exact absurd hm (by decide)
end Fm

namespace Fm
open Go Go.Eng
theorem rword_len {T : List Tk} {r : RS} (h : rword T r ≠ []) : r.1 < T.length := by
  by_cases hr : OffS T r
  · exact absurd (rword_off hr) h
  · simp only [OffS, not_or] at hr; omega
theorem rskip_yes {T : List Tk} {r : RS} {s : List UInt8} (hs : s ≠ []) (h : (rskip T r s).2 = true) : (rskip T r s).1 = (r.1 + 1, r.2) ∧ r.1 < T.length := by
  unfold rskip at h ⊢
  split at h
  · rename_i hw
    rw [if_pos hw]
    exact ⟨rfl, rword_len (by rw [hw]; exact hs)⟩
  · cases h
def SizeOk (T : List Tk) (r : RS) (q : Tree × RS) : RN → Prop
  | .rest i acc => r.1 ≤ q.2.1 ∧ q.2.1 ≤ T.length ∧ (rowT q.1).length ≤ (rowL acc).length + 2 * (q.2.1 - r.1) + (if acc.length = 1 then 0 else 1)
  | _ => r.1 ≤ q.2.1 ∧ q.2.1 ≤ T.length ∧ (rowT q.1).length ≤ 2 * (q.2.1 - r.1) + 1
theorem rowT_mk {op : Int} {nm : List UInt8} {ks : List Tree} : (rowT (.mk op nm ks)).length = (rowL ks).length + 1 := by simp [rowT]
theorem mkRow_size {i : Nat} {acc : List Tree} : (rowT (mkRow i acc)).length ≤ (rowL acc).length + (if acc.length = 1 then 0 else 1) := by
  match acc with
  | [] => simp [mkRow, rowT, rowL]
  | [t] => simp [mkRow, rowL]
  | a :: b :: r => simp [mkRow, rowT]
theorem rp_size {T : List Tk} : ∀ (n : Nat) (nt : RN) (r : RS) (q : Tree × RS), r.1 ≤ T.length → rp T n nt r = some q → SizeOk T r q nt := by
  intro n
  induction n with
  | zero => intro nt r q _ h; simp [rp] at h
  | succ n ih =>
    intro nt r q hr h
    cases nt with
    | choice =>
      rw [rp] at h
      obtain ⟨q1, h1, h⟩ := Option.bind_eq_some_iff.1 h
      obtain ⟨a1, b1, c1⟩ := ih .implies _ _ hr h1
      obtain ⟨q2, h2, h⟩ := Option.bind_eq_some_iff.1 h
      have g2 : r.1 ≤ q2.2.1 ∧ q2.2.1 ≤ T.length ∧ (rowT q2.1).length ≤ 2 * (q2.2.1 - r.1) + 1 := by
        split at h2
        · rename_i hs
          obtain ⟨e1, l1⟩ := rskip_yes (by simp) hs
          rw [e1] at h2
          obtain ⟨q3, h3, h2⟩ := Option.bind_eq_some_iff.1 h2
          obtain ⟨a3, b3, c3⟩ := ih .implies _ _ (by show q1.2.1 + 1 ≤ _; omega) h3
          injection h2 with h2; subst h2
          simp only [rowT_mk, rowL, List.length_append, List.length_nil] at a3 b3 c3 ⊢
          omega
        · injection h2 with h2; subst h2; exact ⟨a1, b1, c1⟩
      obtain ⟨a2, b2, c2⟩ := g2
      show _ ∧ _ ∧ _
      split at h
      · rename_i hs
        obtain ⟨e1, l1⟩ := rskip_yes (by simp) hs
        rw [e1] at h
        obtain ⟨q3, h3, h⟩ := Option.bind_eq_some_iff.1 h
        obtain ⟨a3, b3, c3⟩ := ih .choice _ _ (by show q2.2.1 + 1 ≤ _; omega) h3
        split at h
        · rename_i hs2
          obtain ⟨e2, l2⟩ := rskip_yes (by simp) hs2
          rw [e2] at h
          obtain ⟨q4, h4, h⟩ := Option.bind_eq_some_iff.1 h
          obtain ⟨a4, b4, c4⟩ := ih .choice _ _ (by show q3.2.1 + 1 ≤ _; omega) h4
          injection h with h; subst h
          simp only [rowT_mk, rowL, List.length_append, List.length_nil] at a3 b3 c3 a4 b4 c4 ⊢
          omega
        · injection h with h; subst h
          simp only at a3 b3 c3 ⊢
          omega
      · injection h with h; subst h; exact ⟨a2, b2, c2⟩
    | implies =>
      rw [rp] at h
      obtain ⟨q1, h1, h⟩ := Option.bind_eq_some_iff.1 h
      obtain ⟨a1, b1, c1⟩ := ih (.row 0) _ _ hr h1
      show _ ∧ _ ∧ _
      split at h
      · rename_i hs
        obtain ⟨e1, l1⟩ := rskip_yes (by simp) hs
        rw [e1] at h
        obtain ⟨q3, h3, h⟩ := Option.bind_eq_some_iff.1 h
        obtain ⟨a3, b3, c3⟩ := ih .implies _ _ (by show q1.2.1 + 1 ≤ _; omega) h3
        injection h with h; subst h
        simp only [rowT_mk, rowL, List.length_append, List.length_nil] at a3 b3 c3 ⊢
        omega
      · injection h with h; subst h; exact ⟨a1, b1, c1⟩
    | row i =>
      rw [rp] at h
      show _ ∧ _ ∧ _
      split at h
      · exact ih .least _ _ hr h
      · obtain ⟨q1, h1, h⟩ := Option.bind_eq_some_iff.1 h
        obtain ⟨a1, b1, c1⟩ := ih (.row (i + 1)) _ _ hr h1
        obtain ⟨a2, b2, c2⟩ := ih (.rest i [q1.1]) _ _ b1 h
        simp only [rowL, List.length_append, List.length_nil, List.length_cons, if_pos rfl] at c2
        simp only [Nat.zero_add, if_true] at c2
        omega
    | rest i acc =>
      rw [rp] at h
      show _ ∧ _ ∧ _
      split at h
      · rename_i hs
        obtain ⟨e1, l1⟩ := rskip_yes (rowSign_ne i) hs
        rw [e1] at h
        obtain ⟨q1, h1, h⟩ := Option.bind_eq_some_iff.1 h
        obtain ⟨a1, b1, c1⟩ := ih (.row (i + 1)) _ _ (by show r.1 + 1 ≤ _; omega) h1
        obtain ⟨a2, b2, c2⟩ := ih (.rest i (acc ++ [q1.1])) _ _ b1 h
        simp only [rowL_append, rowL, List.length_append, List.length_nil, List.length_cons] at a1 c1 c2
        refine ⟨by omega, b2, ?_⟩
        by_cases hz : acc.length = 0
        · have : acc = [] := List.eq_nil_of_length_eq_zero hz
          subst this
          simp [rowL] at c2 ⊢
          omega
        · rw [if_neg (by omega)] at c2
          split <;> omega
      · injection h with h; subst h
        have := mkRow_size (i := i) (acc := acc)
        simp only [Nat.le_refl, true_and, Nat.sub_self, Nat.mul_zero, Nat.add_zero]
        exact ⟨hr, this⟩
    | least =>
      rw [rp] at h
      show _ ∧ _ ∧ _
      split at h
      · injection h with h; subst h
        simp only [zeroTree, rowT_mk, rowL, List.length_nil]; omega
      rename_i hw
      have hlt := rword_len hw
      split at h
      · obtain ⟨q1, h1, h⟩ := Option.bind_eq_some_iff.1 h
        obtain ⟨a1, b1, c1⟩ := ih .least _ _ (by show r.1 + 1 ≤ _; omega) h1
        injection h with h; subst h
        simp only [rowT_mk, rowL, List.length_append, List.length_nil] at a1 b1 c1 ⊢
        omega
      split at h
      · obtain ⟨q1, h1, h⟩ := Option.bind_eq_some_iff.1 h
        obtain ⟨a1, b1, c1⟩ := ih .choice _ _ (by show r.1 + 1 ≤ _; omega) h1
        split at h
        · rename_i hs
          obtain ⟨e1, l1⟩ := rskip_yes (by simp) hs
          injection h with h; subst h
          rw [e1]
          simp only at a1 b1 c1 ⊢
          omega
        · injection h with h; subst h
          simp only at a1 b1 c1 ⊢
          omega
      split at h
      · injection h with h; subst h
        simp only [rowT_mk, rowL, List.length_nil]; omega
      split at h
      · injection h with h; subst h
        simp only [rowT_mk, rowL, List.length_nil]; omega
      split at h
      · injection h with h; subst h
        simp only [rowT_mk, rowL, List.length_nil]; omega
      · injection h with h; subst h
        simp only [zeroTree, rowT_mk, rowL, List.length_nil]; omega
mutual
/-- Are two trees equal? -/
def sameT : Tree → Tree → Bool
  | .mk o n k, .mk o' n' k' => decide (o = o') && n == n' && sameL k k'
def sameL : List Tree → List Tree → Bool
  | [], [] => true
  | a :: xs, b :: ys => sameT a b && sameL xs ys
  | _, _ => false
end
mutual
theorem sameT_refl : ∀ t : Tree, sameT t t = true
  | .mk o n k => by simp [sameT, sameL_refl k]
theorem sameL_refl : ∀ ts : List Tree, sameL ts ts = true
  | [] => rfl
  | t :: ts => by simp [sameL, sameT_refl t, sameL_refl ts]
end
mutual
theorem sameT_eq : ∀ {a b : Tree}, sameT a b = true → a = b
  | .mk o n k, .mk o' n' k', h => by
    simp only [sameT, Bool.and_eq_true, decide_eq_true_eq, beq_iff_eq] at h
    rw [h.1.1, h.1.2, sameL_eq h.2]
theorem sameL_eq : ∀ {a b : List Tree}, sameL a b = true → a = b
  | [], [], _ => rfl
  | a :: xs, b :: ys, h => by
    simp only [sameL, Bool.and_eq_true] at h
    rw [sameT_eq h.1, sameL_eq h.2]
  | [], _ :: _, h => by simp [sameL] at h
  | _ :: _, [], h => by simp [sameL] at h
end
theorem sameT_mk (a b : Tree) : sameT a b = (decide (a.op = b.op) && a.name == b.name && sameL a.kids b.kids) := by
  obtain ⟨o, n, k⟩ := a
  obtain ⟨o', n', k'⟩ := b
  simp only [sameT]
  rfl
theorem sameL_len : ∀ {a b : List Tree}, a.length ≠ b.length → sameL a b = false
  | [], [], h => absurd rfl h
  | [], _ :: _, _ => rfl
  | _ :: _, [], _ => rfl
  | a :: xs, b :: ys, h => by simp only [sameL, sameL_len (a := xs) (b := ys) (by simpa using h), Bool.and_false]
/-- Up to a place. -/
theorem sameL_drop : ∀ {a b : List Tree} {i : Nat} {x y : Tree}, a[i]? = some x → b[i]? = some y → sameL (a.drop i) (b.drop i) = (sameT x y && sameL (a.drop (i + 1)) (b.drop (i + 1)))
  | a, b, i, x, y, h1, h2 => by
    obtain ⟨l1, e1⟩ := List.getElem?_eq_some_iff.1 h1
    obtain ⟨l2, e2⟩ := List.getElem?_eq_some_iff.1 h2
    rw [List.drop_eq_getElem_cons l1, List.drop_eq_getElem_cons l2, e1, e2]
    rfl
end Fm

namespace Fm
open Go Go.Eng
/-! ### how great a tree is -/
mutual
def cntT : Nat → Int → Tree → Int
  | lv, left, .mk _ name kids => if lv = 0 ∨ left - 1 < 0 ∨ 100 < name.length then -1 else cntL (lv - 1) (left - 1) kids
def cntL : Nat → Int → List Tree → Int
  | _, left, [] => left
  | lv, left, k :: ks => if left < 0 then left else cntL lv (cntT lv left k) ks
end
mutual
theorem cntT_le : ∀ (lv : Nat) (left : Int) (t : Tree), 0 ≤ left → cntT lv left t ≤ left - 1 ∧ -1 ≤ cntT lv left t
  | lv, left, .mk _ name kids, h => by
    simp only [cntT]
    split
    · omega
    · rename_i hc
      exact cntL_le (lv - 1) (left - 1) kids (by omega)
theorem cntL_le : ∀ (lv : Nat) (left : Int) (ts : List Tree), -1 ≤ left → cntL lv left ts ≤ left ∧ -1 ≤ cntL lv left ts
  | lv, left, [], h => by simp only [cntL]; omega
  | lv, left, k :: ks, h => by
    simp only [cntL]
    split
    · omega
    · have h1 := cntT_le lv left k (by omega)
      have h2 := cntL_le lv (cntT lv left k) ks h1.2
      omega
end
/-- Names of at most so many bytes. -/
def shortN (t : Tree) : Bool := decide (t.name.length ≤ 100)
mutual
theorem cntT_ok : ∀ (lv : Nat) (left : Int) (t : Tree), 0 ≤ cntT lv left t → cntT lv left t = left - (rowT t).length ∧ levT t ≤ lv ∧ (rowT t).all shortN = true
  | lv, left, .mk op name kids, h => by
    simp only [cntT] at h ⊢
    split at h
    · omega
    · rename_i hc
      rw [if_neg hc]
      obtain ⟨h1, h2, h3⟩ := cntL_ok (lv - 1) (left - 1) kids h
      simp only [rowT, levT, List.length_cons, List.all_cons, Bool.and_eq_true, h3, and_true]
      refine ⟨by rw [h1]; omega, ?_, by show decide (name.length ≤ 100) = true; simp; omega⟩
      rcases h2 with h2 | h2
      · subst h2; simp only [levL]; omega
      · omega
theorem cntL_ok : ∀ (lv : Nat) (left : Int) (ts : List Tree), 0 ≤ cntL lv left ts → cntL lv left ts = left - (rowL ts).length ∧ (ts = [] ∨ levL ts ≤ lv) ∧ (rowL ts).all shortN = true
  | lv, left, [], h => by simp [cntL, rowL]
  | lv, left, k :: ks, h => by
    simp only [cntL] at h ⊢
    split at h
    · omega
    · rename_i hc
      rw [if_neg hc]
      obtain ⟨h1, h2, h3⟩ := cntL_ok lv (cntT lv left k) ks h
      have h4 : 0 ≤ cntT lv left k := by omega
      obtain ⟨h5, h6, h7⟩ := cntT_ok lv left k h4
      simp only [rowL, levL, List.length_append, List.all_append, h3, h7, Bool.and_self, and_true]
      refine ⟨by rw [h1, h5]; omega, .inr ?_⟩
      rcases h2 with h2 | h2
      · subst h2; simp only [levL]; omega
      · omega
end
theorem cntT_mk (lv : Nat) (left : Int) (t : Tree) : cntT lv left t = if lv = 0 ∨ left - 1 < 0 ∨ 100 < t.name.length then -1 else cntL (lv - 1) (left - 1) t.kids := by
  obtain ⟨op, name, kids⟩ := t
  simp only [cntT]; rfl
theorem cntL_drop {lv : Nat} {left : Int} {ts : List Tree} {i : Nat} {k : Tree} (h : ts[i]? = some k) (hl : ¬ left < 0) : cntL lv left (ts.drop i) = cntL lv (cntT lv left k) (ts.drop (i + 1)) := by
  obtain ⟨l1, e1⟩ := List.getElem?_eq_some_iff.1 h
  rw [List.drop_eq_getElem_cons l1, e1, cntL, if_neg hl]
theorem cntL_stop {lv : Nat} {left : Int} {ts : List Tree} (hl : left < 0) : cntL lv left ts = left := by
  cases ts with
  | nil => rfl
  | cons k ks => rw [cntL, if_pos hl]
/-- Great: more than 1,200 nodes, or more levels, or a long name. -/
def greatB (t : Tree) (lv : Nat) : Bool := decide (cntT lv 1200 t < 0)
theorem great_no {t : Tree} {lv : Nat} (h : greatB t lv = false) : (rowT t).length ≤ 1200 ∧ levT t ≤ lv ∧ (rowT t).all shortN = true := by
  simp only [greatB, decide_eq_false_iff_not] at h
  obtain ⟨h1, h2, h3⟩ := cntT_ok lv 1200 t (by omega)
  exact ⟨by omega, h2, h3⟩
/-! ### the reference's text -/
def lineOf (op : Int) : Int := if op = 5 then 2 else if op = 7 then 3 else if op = 6 then 4 else if op = 8 then 5 else if op = 9 then 6 else if op = 10 then 7 else 1
def signR (op i : Int) : List UInt8 :=
  if op = 5 then [32, 38, 32] else if op = 7 then [32, 94, 32] else if op = 6 then [32, 124, 32] else if op = 8 then [32, 61, 62, 32] else if op = 9 then [32, 60, 61, 62, 32] else if i = 1 then [32, 63, 32] else [32, 58, 32]
def mostOf (op i : Int) : Int := if (op = 8 ∧ i = 1) ∨ (op = 10 ∧ 0 < i) then lineOf op else if op = 4 then 1 else lineOf op - 1
def headR (op i : Int) : List UInt8 := (if op = 4 then [33] else []) ++ (if 0 < i then signR op i else [])
mutual
def textT : Tree → List UInt8
  | .mk op name kids => if op = 1 then [48] else if op = 2 then [49] else if op = 3 then name else textL op 0 kids
def textL : Int → Int → List Tree → List UInt8
  | _, _, [] => []
  | op, i, k :: ks => headR op i ++ (if mostOf op i < lineOf k.op then [40] ++ textT k ++ [41] else textT k) ++ textL op (i + 1) ks
end
def kidR (op i : Int) (k : Tree) : List UInt8 := if mostOf op i < lineOf k.op then [40] ++ textT k ++ [41] else textT k
theorem textT_mk (t : Tree) : textT t = if t.op = 1 then [48] else if t.op = 2 then [49] else if t.op = 3 then t.name else textL t.op 0 t.kids := by
  obtain ⟨op, name, kids⟩ := t
  simp only [textT]; rfl
/-- What is said of the first kids. -/
def textTo (op : Int) : Nat → List Tree → List UInt8
  | 0, _ => []
  | i + 1, ts => textTo op i ts ++ (match ts[i]? with | some k => headR op i ++ kidR op i k | none => [])
theorem textL_take (op : Int) (ts : List Tree) : ∀ (n i : Nat), ts.length - i = n → i ≤ ts.length → textTo op i ts ++ textL op i (ts.drop i) = textTo op ts.length ts := by
  intro n
  induction n with
  | zero => intro i h1 h2; have : i = ts.length := by omega
            subst this; rw [List.drop_length]; simp [textL]
  | succ n ih =>
    intro i h1 h2
    have hlt : i < ts.length := by omega
    rw [← ih (i + 1) (by omega) (by omega), List.drop_eq_getElem_cons hlt, textL, textTo, List.getElem?_eq_getElem hlt]
    simp only [kidR, List.append_assoc]
    rfl
theorem textL_all (op : Int) (ts : List Tree) : textL op 0 ts = textTo op ts.length ts := by
  have := textL_take op ts ts.length 0 (by omega) (by omega)
  simpa [textTo] using this
theorem textTo_succ {op : Int} {ts : List Tree} {i : Nat} {k : Tree} (h : ts[i]? = some k) : textTo op (i + 1) ts = textTo op i ts ++ (headR op i ++ kidR op i k) := by
  rw [textTo, h]
theorem textTo_le {op : Int} {ts : List Tree} {i : Nat} (h : i ≤ ts.length) : (textTo op i ts).length ≤ (textL op 0 ts).length := by
  rw [textL_all]
  have := textL_take op ts (ts.length - i) i rfl h
  rw [← this, List.length_append]; omega
theorem kidR_le {op i : Int} {k : Tree} : (textT k).length ≤ (kidR op i k).length := by
  unfold kidR; split <;> simp
  omega
theorem right_op {t : Tree} (h : rightB t = true) : 1 ≤ t.op ∧ t.op ≤ 10 := by
  have hk : (kidsOf t.op).2 = true := by
    unfold rightB kidsBad at h
    cases hh : (kidsOf t.op).2 with
    | true => rfl
    | false => rw [hh] at h; simp at h
  unfold kidsOf at hk
  split at hk
  · omega
  split at hk
  · omega
  split at hk
  · omega
  split at hk
  · omega
  split at hk
  · omega
  · cases hk
theorem right_two {t : Tree} (h : rightB t = true) (h4 : t.op = 8) : t.kids.length = 2 := by
  unfold rightB kidsBad kidsOf at h
  rw [h4] at h
  simp at h
  omega
theorem right_not {t : Tree} (h : rightB t = true) (h4 : t.op = 4) : t.kids.length = 1 := by
  unfold rightB kidsBad kidsOf at h
  rw [h4] at h
  simp at h
  omega
mutual
theorem put_text : ∀ t : Tree, (rowT t).all rightB = true → putS t = textT t
  | .mk op name kids, h => by
    simp only [rowT, List.all_cons, Bool.and_eq_true] at h
    have hr := h.1
    simp only [putS, textT]
    by_cases h1 : op = 1
    · rw [if_pos h1, if_pos h1]
    rw [if_neg h1, if_neg h1]
    by_cases h2 : op = 2
    · rw [if_pos h2, if_pos h2]
    rw [if_neg h2, if_neg h2]
    by_cases h3 : op = 3
    · rw [if_pos h3, if_pos h3]
    rw [if_neg h3, if_neg h3]
    have hop10 := right_op hr
    simp only [Tree.op] at hop10
    have hops : op = 4 ∨ op = 5 ∨ op = 6 ∨ op = 7 ∨ op = 8 ∨ op = 9 ∨ op = 10 := by omega
    by_cases h4 : op = 4
    · rw [if_pos h4]
      subst h4
      have hl1 : kids.length = 1 := right_not hr rfl
      match kids, h.2, hl1 with
      | [], _, hl => simp at hl
      | k :: [], hk, _ =>
        simp only [rowL, List.append_nil] at hk
        have ih := put_text k hk
        have hop := op_range k hk
        simp only [putN, textL, headR, mostOf, lineOf, List.append_nil]
        rw [ih]
        by_cases hle : k.op ≤ 4
        · rw [if_pos hle]
          have : lineOf k.op = 1 := by unfold lineOf; repeat (rw [if_neg (by omega)])
          simp only [lineOf] at this
          rw [this]; simp
        · rw [if_neg hle]
          have : 1 < lineOf k.op := by
            unfold lineOf
            rcases (by omega : k.op = 5 ∨ k.op = 6 ∨ k.op = 7 ∨ k.op = 8 ∨ k.op = 9 ∨ k.op = 10) with h | h | h | h | h | h <;> rw [h] <;> decide
          simp only [lineOf] at this
          simp [this]
      | _ :: _ :: _, _, hl => simp at hl
    · rw [if_neg h4]
      exact put_textK op (by omega) 0 (by omega) kids (fun h0 => by have := right_two hr (show (Tree.mk op name kids).op = 8 from h0); simp only [Tree.kids] at this; omega) h.2
theorem op_range : ∀ t : Tree, (rowT t).all rightB = true → 1 ≤ t.op ∧ t.op ≤ 10
  | .mk op name kids, h => by
    simp only [rowT, List.all_cons, Bool.and_eq_true] at h
    exact right_op h.1
theorem put_textK : ∀ (op : Int), 5 ≤ op ∧ op ≤ 10 → ∀ (i : Int), 0 ≤ i → ∀ ts : List Tree, (op = 8 → i + ts.length ≤ 2) → (rowL ts).all rightB = true → putK op i ts = textL op i ts
  | op, hop, i, hi, [], h8, h => rfl
  | op, hop, i, hi, k :: ks, h8, h => by
    simp only [rowL, List.all_append, Bool.and_eq_true] at h
    have ih := put_text k h.1
    have ih2 := put_textK op hop (i + 1) (by omega) ks (fun h0 => by have := h8 h0; simp at this; omega) h.2
    have hk := op_range k h.1
    simp only [putK, textL, ih, ih2]
    have e0 : headR op i = if 0 < i then signR op i else [] := by
      unfold headR
      rw [if_neg (show ¬ op = 4 by omega)]; rfl
    have e1 : (if 0 < i then [32] ++ signS op i ++ [32] else []) = headR op i := by
      rw [e0]
      by_cases h0 : 0 < i
      · rw [if_pos h0, if_pos h0]
        unfold signS signR
        rcases (by omega : op = 5 ∨ op = 6 ∨ op = 7 ∨ op = 8 ∨ op = 9 ∨ op = 10) with h | h | h | h | h | h <;> subst h <;> simp
        split <;> rfl
      · rw [if_neg h0, if_neg h0]
    rw [e1]
    have e2 : ((bareL.take (bareN op i)).contains k.op || decide (k.op ≤ 4)) = !decide (mostOf op i < lineOf k.op) := by
      obtain ⟨j, hj, h82, hb, hm⟩ : ∃ j, j ∈ [0, 1, 2] ∧ (op = 8 → j ≠ 2) ∧ bareN op i = bareN op j ∧ mostOf op i = mostOf op j := by
        by_cases h0 : i = 0
        · exact ⟨0, by simp, by simp, by rw [h0], by rw [h0]⟩
        by_cases h1 : i = 1
        · exact ⟨1, by simp, by simp, by rw [h1], by rw [h1]⟩
        refine ⟨2, by simp, fun h0 => by have := h8 h0; simp at this; omega, ?_, ?_⟩
        · unfold bareN; simp [h0]
        · unfold mostOf; simp [h1, show 0 < i by omega]
      rw [hb, hm]
      have key : ∀ o ∈ [5, 6, 7, 8, 9, 10], ∀ j ∈ [0, 1, 2], (o = 8 → j ≠ 2) → ∀ p ∈ [1, 2, 3, 4, 5, 6, 7, 8, 9, 10], ((bareL.take (bareN o j)).contains p || decide (p ≤ 4)) = !decide (mostOf o j < lineOf p) := by decide
      exact key op (by simp; omega) j hj h82 k.op (by simp; omega)
    rw [e2]
    by_cases h5 : mostOf op i < lineOf k.op
    · simp [h5]
    · simp [h5]
end
end Fm

namespace Go.Proofs.Ytbippghgkbapnaa
open Go Go.Eng Go.Proofs
theorem Clone_c (ls : List (List Int)) (a : Option Addr) (cap : Nat) (us : List Value) (hlen : ls.length ≤ 1099511627776) (ha : a = none ∨ ∃ b off, a = some ⟨b, off, none⟩) (w : World) (hr : RdLL w ls a us) :
    Calls Try.prog 62 [.slice a ls.length cap].toArray w fun e w' => ∃ x : Option Addr × Nat, e = .returned (.slice x.1 ls.length x.2) ∧ St w [] [rowc (.slice x.1 ls.length x.2) ls.length 54 1 us] w' := by
  refine enter Try.func62 rfl Try.ntmps62 rfl (St.init _) ?_
  refine WC.seq ?_
  refine WC.region ?_
  refine WL.step ?_
  refine WL.assign rfl rfl ?_
  refine WL.nil ?_
  refine WQ.then_normal ?_
  refine WC.seq ?_
  refine WC.seq ?_
  rcases ha with rfl | ⟨b, off, rfl⟩
  · skip
    have hus : us = [] := by
      cases us with
      | nil => rfl
      | cons u r =>
        obtain ⟨b, off, h1, _⟩ := hr.hd 0 u rfl
        cases h1
    have hl0 : ls = [] := by (have := hr.len; rw [hus] at this; exact List.eq_nil_of_length_eq_zero this.symm)
    subst hus; subst hl0
    refine WC.region ?_
    refine WL.step ?_
    refine WL.move rfl rfl ?_
    refine WL.step ?_
    refine WL.bin rfl rfl rfl (v := .bool true) (fun w => by kernel_rfl) ?_
    refine WL.nil ?_
    refine WQ.then_normal ?_
    refine WC.condT rfl ?_
    refine WC.seq ?_
    refine WC.region ?_
    refine WL.step ?_
    refine WL.assign rfl rfl ?_
    refine WL.nil ?_
    refine WQ.then_normal ?_
    refine WC.ret ?_
    refine WQ.then_ret ?_
    exact WQ.ret (rs := [.tmp 2]) rfl (.tmp rfl .nil) (fun w hS => ⟨(none, 0), rfl, hS.rowNil 54 1⟩)
  · skip
    refine WC.region ?_
    refine WL.step ?_
    refine WL.move rfl rfl ?_
    refine WL.step ?_
    refine WL.bin rfl rfl rfl (v := .bool false) (fun w => by kernel_rfl) ?_
    refine WL.nil ?_
    refine WQ.then_normal ?_
    refine WC.condF rfl ?_
    refine WC.skip ?_
    refine WQ.then_normal ?_
    refine WC.seq ?_
    refine WC.region ?_
    refine WL.step ?_
    refine WL.buildSlice0 F.sl38 rfl (fun b5 => ?_)
    refine WA.chunks (fun w hS => hS.rowOf (n := 0) (sz := 1) rfl (by decide)) ?_
    refine WL.step ?_
    refine WL.move rfl rfl ?_
    refine WL.step ?_
    refine WL.appendE (news := us) F.el38 rfl rfl rfl (by repeat (first | exact Rem.here | apply Rem.there)) (fun w hS i u hu => ?_) (by rw [hr.len, Nat.mul_one]) (fun u hu => ?_) (Nat.le_trans (m := 1099511627776) (by omega) (by decide)) (by omega) (fun a2 cap2 => ?_)
    · obtain ⟨b2, off2, h1, h2⟩ := hr.hd i u hu
      injection h1 with h1
      injection h1 with h1 h3
      subst h1; subst h3
      exact hS.oldc h2 (by simp)
    · obtain ⟨i, hi, he⟩ := List.getElem_of_mem hu
      have h1 : us[i]? = some u := by rw [List.getElem?_eq_getElem hi, he]
      have h2 : ls[i]? = some (ls[i]'(by rw [← hr.len]; exact hi)) := List.getElem?_eq_getElem _
      obtain ⟨a1, c1, h3, _⟩ := hr.rd i _ u h2 h1
      subst h3
      rfl
    refine WL.step ?_
    refine WL.assign rfl rfl ?_
    refine WL.nil ?_
    refine WQ.then_normal ?_
    refine WC.ret ?_
    refine WQ.ret (rs := [.tmp 2]) rfl (.tmp rfl .nil) (fun w hS => ⟨(a2, cap2), ?_, ?_⟩)
    · simp [tup]
    · simpa using hS

theorem passK_KB : ∀ {ls : List (List Int)} {k : Fm.Kn} {ag : Bool}, KB k → (∀ c ∈ ls, ∀ x ∈ c, Lit x) → (∀ k', Fm.passK ls k ag = .inl k' → KB k') ∧ (∀ k' b, Fm.passK ls k ag = .inr (k', b) → KB k')
  | [], k, ag, hk, _ => ⟨fun k' h => by simp [Fm.passK] at h, fun k' b h => by simp only [Fm.passK, Sum.inr.injEq, Prod.mk.injEq] at h; rw [← h.1]; exact hk⟩
  | c :: cs, k, ag, hk, hl => by
    have hcs : ∀ c ∈ cs, ∀ x ∈ c, Lit x := fun c' h => hl c' (List.mem_cons_of_mem _ h)
    simp only [Fm.passK]
    split
    · exact ⟨fun k' h => by injection h with h; rw [← h]; exact hk, fun k' b h => by cases h⟩
    split
    · exact ⟨fun k' h => by injection h with h; rw [← h]; exact hk, fun k' b h => by cases h⟩
    split
    · rename_i h1 h2 h3
      have hx : Lit (Fm.unitK k c).1 := by
        rcases unitG_mem (x := (Fm.unitK k c).1) (c := c) (op := 0) (k := k) (by have := h3; unfold Fm.unitK at this ⊢; rw [← this]) with h0 | h0
        · exfalso
          apply h2
          rw [h3, h0]; rfl
        · exact hl c (List.mem_cons_self ..) _ h0
      exact passK_KB (hk.with hx) hcs
    · exact passK_KB hk hcs
theorem closedF_KB : ∀ {f : Nat} {ls : List (List Int)} {k k' : Fm.Kn} {b : Bool}, KB k → (∀ c ∈ ls, ∀ x ∈ c, Lit x) → Fm.closedF f ls k = some (k', b) → KB k'
  | 0, ls, k, k', b, _, _, h => by simp [Fm.closedF] at h
  | f + 1, ls, k, k', b, hk, hl, h => by
    have hp := passK_KB (ag := false) hk hl
    simp only [Fm.closedF] at h
    split at h
    · rename_i k2 h2
      simp only [Option.some.injEq, Prod.mk.injEq] at h
      rw [← h.1]; exact hp.1 _ h2
    · rename_i k2 b2 h2
      split at h
      · exact closedF_KB (hp.2 _ _ h2) hl h
      · simp only [Option.some.injEq, Prod.mk.injEq] at h
        rw [← h.1]; exact hp.2 _ _ h2
theorem solveF_true {n f : Nat} {all proof : List (List Int)} {path : List Int} : Fm.solveF n (f + 1) true all path proof = match path.getLast? with
    | none => some ⟨false, 0, proof ++ [path.map (fun x => -x)]⟩
    | some last => if last < 0 then Fm.solveF n f false (all ++ [path.map (fun x => -x)]) (path.dropLast ++ [-last]) (proof ++ [path.map (fun x => -x)]) else Fm.solveF n f true (all ++ [path.map (fun x => -x)]) path.dropLast (proof ++ [path.map (fun x => -x)]) := rfl
structure SG where
  f : Nat
  path : List Int
  ss : List (List Int)
  vs : List Value
  hs : List Value
  ps : List Value
  F : List Nat
  aa : Option Addr
  pa : Option Addr
  ta : Option Addr
  ca : Nat
  pc : Nat
  tc : Nat
  nA : Nat
  nP : Nat
  nT : Nat
structure SInv (n : Nat) (ls : List (List Int)) (us : List Value) (r : Fm.Ans) (mode : Bool) (g : SG) : Prop where
  sol : Fm.solveF n g.f mode (ls ++ g.ss) g.path g.ss = some r
  hhs : g.hs = us ++ g.vs
  hps : g.ps = g.path.map (Value.int .i64)
  hA : g.nA = ls.length + g.ss.length
  hP : g.nP = g.ss.length
  hT : g.nT = g.path.length
  lit : ∀ x ∈ g.path, x ≠ 0 ∧ -24 ≤ x ∧ x ≤ 24
  slit : ∀ c ∈ g.ss, ∀ x ∈ c, Lit x
  slen : ∀ c ∈ g.ss, c.length ≤ 1099511627776
  bp : g.path.length + g.f ≤ 1073741824
  bs : g.ss.length + g.f ≤ 1073741824
/-- The step that shows that a path leads to no model, laid up to i. -/
def stepAt (path : List Int) (i : Nat) : List Value := ((path.map (fun x => -x)).take i).map (Value.int .i64) ++ List.replicate (path.length - i) (.int .i64 0)
theorem stepAt_len {path : List Int} {i : Nat} (h : i ≤ path.length) : (stepAt path i).length = path.length := by
  simp [stepAt]; omega
theorem stepAt_set {path : List Int} {i : Nat} {x : Int} (h : path[i]? = some x) : (stepAt path i).set i (.int .i64 (-x)) = stepAt path (i + 1) := by
  have hi := (List.getElem?_eq_some_iff.1 h).1
  have hl : (((path.map (fun x => -x)).take i).map (Value.int .i64)).length = i := by simp; omega
  unfold stepAt
  rw [List.set_append_right _ _ (by omega), hl, Nat.sub_self, List.take_add_one, List.map_append]
  have hg : (path.map (fun x => -x))[i]? = some (-x) := by simp [h]
  rw [hg]
  have hr : path.length - i = (path.length - (i + 1)) + 1 := by omega
  rw [hr, List.replicate_succ, List.set_cons_zero]
  simp
theorem stepAt_end {path : List Int} : stepAt path path.length = (path.map (fun x => -x)).map (Value.int .i64) := by
  simp [stepAt]
  rw [List.take_of_length_le (by simp)]
theorem Lit.neg {x : Int} (h : x ≠ 0 ∧ -24 ≤ x ∧ x ≤ 24) : Lit (-x) := ⟨by omega, by omega, by omega⟩
theorem litB_lit {n : Nat} {x : Int} (hn : n ≤ 24) (h : Fm.litB (n : Int) x = true) : Lit x := by
  simp only [Fm.litB, Bool.and_eq_true, Bool.not_eq_true', decide_eq_true_eq, beq_eq_false_iff_ne] at h
  exact ⟨h.1.1, by omega, by omega⟩
theorem may_lit {n : Nat} {ls : List (List Int)} (hn : n ≤ 24) (h : ls.all (Fm.fitsB (n : Int)) = true) : (∀ c ∈ ls, ∀ x ∈ c, Lit x) ∧ (∀ c ∈ ls, c.length ≤ 64) := by
  rw [List.all_eq_true] at h
  refine ⟨fun c hc x hx => ?_, fun c hc => ?_⟩
  · have := h c hc
    simp only [Fm.fitsB, Bool.and_eq_true, List.all_eq_true] at this
    exact litB_lit hn (this.2 x hx)
  · have := h c hc
    simp only [Fm.fitsB, Bool.and_eq_true, decide_eq_true_eq] at this
    exact this.1
theorem foldl_KB {path : List Int} (h : ∀ x ∈ path, x ≠ 0 ∧ -24 ≤ x ∧ x ≤ 24) : ∀ {k : Fm.Kn}, KB k → KB (path.foldl Fm.withK k) := by
  induction path with
  | nil => intro k hk; exact hk
  | cons x r ih =>
    intro k hk
    have hx := h x (List.mem_cons_self ..)
    exact ih (fun y hy => h y (List.mem_cons_of_mem _ hy)) (hk.with ⟨hx.1, by omega, by omega⟩)
def SolvePost (w : World) (r : Fm.Ans) (e : Ending) (w' : World) : Prop :=
  ∃ (x : Option Addr × Nat) (F : List Nat) (vs : List Value), e = .returned (.tuple #[.agg #[.bool r.ok, .int .u32 (r.model : Int), .slice x.1 r.proof.length x.2], .int .i64 0]) ∧
    St w [] [rowc (.slice x.1 r.proof.length x.2) r.proof.length 54 1 vs, stepsC F vs r.proof] w'

theorem may_zero {m : Int} {ls : List (List Int)} (h : Fm.mayE m ls = 0) : (0 ≤ m ∧ m ≤ 24) ∧ ls.length ≤ 4096 ∧ ls.all (Fm.fitsB m) = true := by
  unfold Fm.mayE at h
  split at h
  · cases h
  split at h
  · cases h
  split at h
  · rename_i h1 h2 h3
    exact ⟨by omega, by omega, h3⟩
  · cases h
theorem stepAt_zero {path : List Int} {k : Nat} (h : k = path.length) : stepAt path 0 = List.replicate k (.int .i64 0) := by
  simp [stepAt, h]
theorem last_at {path : List Int} {x : Int} {k : Nat} (hk : k = path.length) (h : path.getLast? = some x) : path[k - 1]? = some x ∧ 0 < k := by
  subst hk
  rw [List.getLast?_eq_getElem?] at h
  exact ⟨h, by have := (List.getElem?_eq_some_iff.1 h).1; omega⟩
namespace F
theorem info3 : (Try.prog.info? 3).map (fun i => (i.zero, i.size, i.bytes)) = some (some (.int .i64 0), 1, 8) := by kernel_rfl
end F

theorem Solve_c (m : Int) (ls : List (List Int)) (a : Option Addr) (cap : Nat) (us : List Value) (ha : a = none ∨ ∃ b off, a = some ⟨b, off, none⟩) (w : World) (hr : RdLL w ls a us)
    (f0 : Nat) (r : Fm.Ans) (hf0 : f0 ≤ 536870912) (hsol : ∀ n : Nat, m = (n : Int) → Fm.mayE m ls = 0 → Fm.solveF n f0 false ls [] [] = some r) :
    Calls Try.prog 24 [.int .i64 m, .slice a ls.length cap].toArray w fun e w' => (Fm.mayE m ls ≠ 0 ∧ e = .returned (.tuple #[.agg #[.bool false, .int .u32 0, .slice none 0 0], .int .i64 (Fm.mayE m ls)]) ∧ St w [] [] w') ∨
      (Fm.mayE m ls = 0 ∧ SolvePost w r e w') := by
  refine enter Try.func24 rfl Try.ntmps24 rfl (St.init _) ?_
  refine WC.seq ?_
  refine WC.region ?_
  refine WL.step ?_
  refine WL.alloc F.zero43 rfl (fun b4 => ?_)
  refine WL.step ?_
  refine WL.assign rfl rfl ?_
  refine WL.nil ?_
  refine WQ.then_normal ?_
  refine WC.scope ?_
  refine WC.seq ?_
  refine WC.seq ?_
  refine WC.region ?_
  refine WL.step ?_
  refine WL.move rfl rfl ?_
  refine WL.step ?_
  refine WL.move rfl rfl ?_
  refine WL.step ?_
  refine WL.callV F.fun61 rfl rfl (fun w hS => may_c m ls a cap us w (hr.next hS)) ?_
  refine WL.step ?_
  refine WL.assign rfl rfl ?_
  refine WL.nil ?_
  refine WQ.then_normal ?_
  refine WC.seq ?_
  refine WC.region ?_
  refine WL.step ?_
  refine WL.move rfl rfl ?_
  refine WL.step ?_
  refine WL.neI rfl rfl rfl ?_
  refine WL.nil ?_
  refine WQ.then_normal ?_
  refine WC.cond rfl (fun h23 => ?_) (fun h23 => ?_)
  · skip
    have hme : Fm.mayE m ls ≠ 0 := by simpa using h23
    refine WC.seq ?_
    refine WC.region ?_
    refine WL.step ?_
    refine WL.build F.stT43 rfl (by repeat (first | exact Built.nil | apply Built.one rfl rfl (by repeat constructor) | apply Built.agg rfl rfl (by repeat constructor))) rfl ?_
    refine WL.step ?_
    refine WL.move rfl rfl ?_
    refine WL.step ?_
    refine WL.storeN F.agg43 rfl rfl rfl (by simp [Value.oneCell']) (by repeat (first | exact Upd.here | apply Upd.there)) (by repeat constructor) ?_
    refine WL.step ?_
    refine WL.assign rfl rfl ?_
    refine WL.nil ?_
    refine WQ.then_normal ?_
    refine WC.ret ?_
    refine WQ.then_ret ?_
    refine WQ.scope_ret ?_
    refine WQ.ret (rs := [.cell 4 43, .tmp 5]) rfl (.cellN F.agg43 rfl (by repeat (first | exact List.Mem.head _ | apply List.Mem.tail)) rfl (.tmp rfl .nil)) (fun w hS => .inl ⟨hme, rfl, hS.drop⟩)
  · skip
    have hme : Fm.mayE m ls = 0 := by simpa using h23
    obtain ⟨hm0, hcount, hall⟩ := may_zero hme
    obtain ⟨n, rfl⟩ : ∃ n : Nat, m = (n : Int) := ⟨m.toNat, by omega⟩
    have hn : n ≤ 24 := by omega
    obtain ⟨hlits, hlens⟩ := may_lit hn hall
    have h := hsol n rfl hme
    refine WC.skip ?_
    refine WQ.then_normal ?_
    refine WC.seq ?_
    refine WC.region ?_
    refine WL.step ?_
    refine WL.move rfl rfl ?_
    refine WL.step ?_
    refine WL.callC (β := Option Addr × Nat) (res := fun x => .slice x.1 ls.length x.2) (cs := fun x => [rowc (.slice x.1 ls.length x.2) ls.length 54 1 us]) (Cs := []) (O' := []) F.fun62 (fun d h => by cases h; rfl) rfl (List.Perm.refl _) (by simp) (by simp) (fun w hS _ => Clone_c ls a cap us (by omega) ha w (hr.next hS)) (fun x27 => ?_)
    refine WL.step ?_
    refine WL.assign rfl rfl ?_
    refine WL.nil ?_
    refine WQ.then_normal ?_
    refine WC.seq ?_
    refine WC.region ?_
    refine WL.step ?_
    refine WL.assign rfl rfl ?_
    refine WL.nil ?_
    refine WQ.then_normal ?_
    refine WC.seq ?_
    refine WC.region ?_
    refine WL.step ?_
    refine WL.assign rfl rfl ?_
    refine WL.nil ?_
    refine WQ.then_normal ?_
    refine WC.seq ?_
    refine WC.label ?_
    refine WQ.then_normal ?_
    refine WC.block ?_
    obtain ⟨a1, c1⟩ := x27
    refine WC.chunks (fun w hS => (hS.rowNil 54 1)) ?_
    refine WC.chunks (fun w hS => (hS.rowNil 3 1)) ?_
    refine WC.chunks (fun w hS => hS.stepsNil) ?_
    refine WC.chunks (C' := [pt b4 [.bool false, .int .u32 0, .slice none 0 0] 43, rowc (.slice a1 ls.length c1) ls.length 54 1 us, rowc (.slice none 0 0) 0 54 1 [], rowc (.slice none 0 0) 0 3 1 [], stepsC [] [] []]) (fun w hS => (St.pick (St.pick (St.pick (St.pick hS (c := rowc (.slice none 0 0) 0 3 1 []) (by repeat (first | exact Rem.here | apply Rem.there))) (c := rowc (.slice none 0 0) 0 54 1 []) (by repeat (first | exact Rem.here | apply Rem.there))) (c := rowc (.slice a1 ls.length c1) ls.length 54 1 us) (by repeat (first | exact Rem.here | apply Rem.there))) (c := pt b4 [.bool false, .int .u32 0, .slice none 0 0] 43) (by repeat (first | exact Rem.here | apply Rem.there)))) ?_
    refine WC.loop (α := SG) (SInv n ls us r false) (fun g => [(0, .int .i64 (n : Int)), (4, pp b4), (7, .slice g.aa g.nA g.ca), (8, .slice g.ta g.nT g.tc), (9, .slice g.pa g.nP g.pc)]) (fun g => [pt b4 [.bool false, .int .u32 0, .slice none 0 0] 43, rowc (.slice g.aa g.nA g.ca) g.nA 54 1 g.hs, rowc (.slice g.pa g.nP g.pc) g.nP 54 1 g.vs, rowc (.slice g.ta g.nT g.tc) g.nT 3 1 g.ps, stepsC g.F g.vs g.ss]) (fun g => g.f) (⟨f0, [], [], [], us, [], [], a1, none, none, c1, 0, 0, ls.length, 0, 0⟩) ?_ ?_ ?_ ?_
    · exact ⟨by rw [List.append_nil]; exact h, by rw [List.append_nil], rfl, rfl, rfl, rfl, by simp, by simp, by simp, by simp; omega, by simp; omega⟩
    · exact ⟨rfl, rfl, rfl, rfl, rfl, trivial⟩
    · rfl
    rintro ⟨f, path, ss, vs, hs, ps, Fb, aa, pa, ta, ca, pc, tc, nA, nP, nT⟩ hI
    obtain ⟨sol, hhs, hps, hA, hP, hT, hlit, hslit, hslen, hbp, hbs⟩ := hI
    dsimp only at sol hhs hps hA hP hT hlit hslit hslen hbp hbs
    obtain ⟨f, rfl⟩ : ∃ f2, f = f2 + 1 := by cases f with | zero => simp [Fm.solveF] at sol | succ f => exact ⟨f, rfl⟩
    show WC _ _ _ _ _ _ _ [(0, .int .i64 (n : Int)), (4, pp b4), (7, .slice aa nA ca), (8, .slice ta nT tc), (9, .slice pa nP pc)] [pt b4 [.bool false, .int .u32 0, .slice none 0 0] 43, rowc (.slice aa nA ca) nA 54 1 hs, rowc (.slice pa nP pc) nP 54 1 vs, rowc (.slice ta nT tc) nT 3 1 ps, stepsC Fb vs ss]
    simp only [Fm.solveF] at sol
    obtain rfl : nA = (ls ++ ss).length := by rw [hA, List.length_append]
    have hLL : ∀ c ∈ ls ++ ss, ∀ x ∈ c, Lit x := by
      intro c hc
      rcases List.mem_append.1 hc with hc | hc
      · exact hlits c hc
      · exact hslit c hc
    have hLen : ∀ c ∈ ls ++ ss, c.length ≤ 1099511627776 := by
      intro c hc
      rcases List.mem_append.1 hc with hc | hc
      · have := hlens c hc; omega
      · exact hslen c hc
    refine WC.block ?_
    refine WC.seq ?_
    refine WC.region ?_
    refine WL.step ?_
    refine WL.build F.stT103 rfl (by repeat (first | exact Built.nil | apply Built.one rfl rfl (by repeat constructor) | apply Built.agg rfl rfl (by repeat constructor))) rfl ?_
    refine WL.step ?_
    refine WL.alloc F.zero103 rfl (fun b10 => ?_)
    refine WL.step ?_
    refine WL.storeN F.agg103 rfl rfl rfl (by simp [Value.oneCell']) (by repeat (first | exact Upd.here | apply Upd.there)) (by repeat constructor) ?_
    refine WL.nil ?_
    refine WQ.then_normal ?_
    refine WC.seq ?_
    refine WC.seq ?_
    refine WC.region ?_
    refine WL.step ?_
    refine WL.move rfl rfl ?_
    refine WL.step ?_
    refine WL.lenSl F.und54 rfl rfl ?_
    refine WL.step ?_
    refine WL.move rfl rfl ?_
    refine WL.nil ?_
    refine WQ.then_normal ?_
    refine WC.block ?_
    refine WC.loop (α := Nat × Fm.Kn) (fun g => g.1 ≤ nT ∧ KB g.2 ∧ g.2 = (path.take g.1).foldl Fm.withK (0, 0)) (fun g => [(0, .int .i64 (n : Int)), (4, pp b4), (7, .slice aa (ls ++ ss).length ca), (8, .slice ta nT tc), (9, .slice pa nP pc), (10, pp b10), (29, .slice ta nT tc), (30, .int .i64 (nT : Int)), (31, .int .i64 (g.1 : Int))]) (fun g => [pt b10 [.int .u32 (g.2.1 : Int), .int .u32 (g.2.2 : Int)] 103, pt b4 [.bool false, .int .u32 0, .slice none 0 0] 43, rowc (.slice aa (ls ++ ss).length ca) (ls ++ ss).length 54 1 hs, rowc (.slice pa nP pc) nP 54 1 vs, rowc (.slice ta nT tc) nT 3 1 ps, stepsC Fb vs ss]) (fun g => nT - g.1) ((0, (0, 0))) ?_ ?_ ?_ ?_
    · exact ⟨Nat.zero_le _, ⟨by decide, by decide⟩, rfl⟩
    · exact ⟨rfl, rfl, rfl, rfl, rfl, rfl, rfl, rfl, rfl, trivial⟩
    · rfl
    rintro ⟨i, k⟩ ⟨hi, hk, hke⟩
    dsimp only at hi hk hke
    show WC _ _ _ _ _ _ _ [(0, .int .i64 (n : Int)), (4, pp b4), (7, .slice aa (ls ++ ss).length ca), (8, .slice ta nT tc), (9, .slice pa nP pc), (10, pp b10), (29, .slice ta nT tc), (30, .int .i64 (nT : Int)), (31, .int .i64 (i : Int))] [pt b10 [.int .u32 (k.1 : Int), .int .u32 (k.2 : Int)] 103, pt b4 [.bool false, .int .u32 0, .slice none 0 0] 43, rowc (.slice aa (ls ++ ss).length ca) (ls ++ ss).length 54 1 hs, rowc (.slice pa nP pc) nP 54 1 vs, rowc (.slice ta nT tc) nT 3 1 ps, stepsC Fb vs ss]
    refine WC.seq ?_
    refine WC.region ?_
    refine WL.step ?_
    refine WL.ltI rfl rfl rfl ?_
    refine WL.nil ?_
    refine WQ.then_normal ?_
    refine WC.seq ?_
    refine WC.cond rfl (fun h32 => ?_) (fun h32 => ?_)
    · skip
      have hlt : i < nT := by simpa using h32
      obtain ⟨x, hx⟩ : ∃ x, path[i]? = some x := ⟨_, List.getElem?_eq_getElem (by omega)⟩
      have hxl := hlit x (List.mem_of_getElem? hx)
      refine WC.know (φ := ∃ g, ta = some ⟨g, 0, none⟩ ∧ nT = nT ∧ nT ≤ tc) (fun w hS => rowc_addr (hS.ok (rowc (.slice ta nT tc) nT 3 1 ps) (by repeat (first | exact List.Mem.head _ | apply List.Mem.tail))) (by omega)) (fun ⟨g, hta, _, _⟩ => ?_)
      subst hta
      refine WC.skip ?_
      refine WQ.then_normal ?_
      refine WC.seq ?_
      refine WC.block ?_
      refine WC.seq ?_
      refine WC.region ?_
      refine WL.step ?_
      refine WL.indexAddr F.sl54 rfl rfl rfl hlt ?_
      refine WL.step ?_
      refine WL.load1 F.one3 rfl rfl (v := .int .i64 x) (fun w hS => by simpa using rowc_cell (hS.ok (rowc (.slice (some ⟨g, 0, none⟩) nT tc) nT 3 1 ps) (by repeat (first | exact List.Mem.head _ | apply List.Mem.tail))) (u := .int .i64 x) (by rw [hps]; simp [hx])) ?_
      refine WL.step ?_
      refine WL.assign rfl rfl ?_
      refine WL.nil ?_
      refine WQ.then_normal ?_
      refine WC.region ?_
      refine WL.step ?_
      refine WL.loadW F.agg103 rfl rfl (by repeat (first | exact List.Mem.head _ | apply List.Mem.tail)) rfl ?_
      refine WL.step ?_
      refine WL.move rfl rfl ?_
      refine WL.step ?_
      refine WL.callV F.fun63 rfl rfl (fun w _ => with_c k x hk ⟨hxl.1, by omega, by omega⟩ w) ?_
      refine WL.step ?_
      refine WL.storeN F.agg103 rfl rfl rfl (by simp [Value.oneCell']) (by repeat (first | exact Upd.here | apply Upd.there)) (by repeat constructor) ?_
      refine WL.nil ?_
      refine WQ.block_normal ?_
      refine WQ.then_normal ?_
      refine WC.region ?_
      refine WL.step ?_
      refine WL.add rfl rfl rfl ⟨by omega, by omega⟩ ?_
      refine WL.step ?_
      refine WL.move rfl rfl ?_
      refine WL.nil ?_
      refine WQ.back ((i + 1, Fm.withK k x)) ?_ ?_ ?_ ?_
      · exact ⟨by show i + 1 ≤ nT; omega, hk.with ⟨hxl.1, by omega, by omega⟩, by show Fm.withK k x = _; rw [List.take_add_one, hx, List.foldl_append, ← hke]; rfl⟩
      · (show nT - (i + 1) < nT - i; omega)
      · exact ⟨rfl, rfl, rfl, rfl, rfl, rfl, rfl, rfl, rfl, trivial⟩
      · rfl
    · skip
      have hie : nT = i := by simp at h32; omega
      subst hie
      rw [hT, List.take_length] at hke
      refine WC.exit ?_
      refine WQ.then_exit ?_
      refine WQ.then_exit ?_
      refine WQ.block_exit ?_
      refine WQ.then_normal ?_
      refine WC.seq ?_
      rcases hcl : Fm.closedF 65 (ls ++ ss) k with _ | ⟨k1, ok⟩
      · skip
        rw [← hke, hcl] at sol
        cases sol
      · skip
        rw [← hke, hcl] at sol
        have hk1 := closedF_KB hk hLL hcl
        refine WC.region ?_
        refine WL.step ?_
        refine WL.move rfl rfl ?_
        refine WL.step ?_
        refine WL.loadW F.agg103 rfl rfl (by repeat (first | exact List.Mem.head _ | apply List.Mem.tail)) rfl ?_
        refine WL.step ?_
        refine WL.callV F.fun64 rfl rfl (fun w hS => closed_c (ls ++ ss) aa ca hs k 65 (k1, ok) hk hLL hLen (by simp; omega) w (hr.join hS hhs (by rw [List.length_append]) (n := (ls ++ ss).length) (cap := ca) (F := Fb) (vs := vs) (by repeat (first | exact List.Mem.head _ | apply List.Mem.tail)) (by repeat (first | exact List.Mem.head _ | apply List.Mem.tail))) hcl) ?_
        refine WL.step ?_
        refine WL.move rfl rfl ?_
        refine WL.step ?_
        refine WL.extract rfl rfl rfl ?_
        refine WL.step ?_
        refine WL.extract rfl rfl rfl ?_
        refine WL.step ?_
        refine WL.storeN F.agg103 rfl rfl rfl (by simp [Value.oneCell']) (by repeat (first | exact Upd.here | apply Upd.there)) (by repeat constructor) ?_
        refine WL.step ?_
        refine WL.assign rfl rfl ?_
        refine WL.nil ?_
        refine WQ.then_normal ?_
        refine WC.seq ?_
        refine WC.seq ?_
        refine WC.region ?_
        refine WL.step ?_
        refine WL.move rfl rfl ?_
        refine WL.nil ?_
        refine WQ.then_normal ?_
        refine WC.cond rfl (fun h45 => ?_) (fun h45 => ?_)
        · skip
          have hok : ok = true := h45
          subst hok
          simp only at sol
          refine WC.seq ?_
          refine WC.seq ?_
          refine WC.region ?_
          refine WL.step ?_
          refine WL.move rfl rfl ?_
          refine WL.step ?_
          refine WL.assign rfl rfl ?_
          refine WL.nil ?_
          refine WQ.then_normal ?_
          refine WC.block ?_
          refine WC.loop (α := Nat) (fun i => i ≤ n ∧ Fm.openK k1 n = Fm.openK k1 i) (fun i => [(0, .int .i64 (n : Int)), (4, pp b4), (7, .slice aa (ls ++ ss).length ca), (8, .slice ta nT tc), (9, .slice pa nP pc), (10, pp b10), (14, .int .i64 (i : Int))]) (fun _ => [pt b10 [.int .u32 (k1.1 : Int), .int .u32 (k1.2 : Int)] 103, pt b4 [.bool false, .int .u32 0, .slice none 0 0] 43, rowc (.slice aa (ls ++ ss).length ca) (ls ++ ss).length 54 1 hs, rowc (.slice pa nP pc) nP 54 1 vs, rowc (.slice ta nT tc) nT 3 1 ps, stepsC Fb vs ss]) (fun i => i) (n) ?_ ?_ ?_ ?_
          · exact ⟨Nat.le_refl _, rfl⟩
          · exact ⟨rfl, rfl, rfl, rfl, rfl, rfl, rfl, trivial⟩
          · rfl
          rintro i ⟨hi, hop⟩
          refine WC.seq ?_
          refine WC.seq ?_
          refine WC.region ?_
          refine WL.step ?_
          refine WL.move rfl rfl ?_
          refine WL.step ?_
          refine WL.gtI rfl rfl rfl ?_
          refine WL.nil ?_
          refine WQ.then_normal ?_
          refine WC.cond rfl (fun h48 => ?_) (fun h48 => ?_)
          · skip
            have hi0 : 0 < i := by simp at h48; omega
            have hLi : Lit (i : Int) := ⟨by omega, by omega, by omega⟩
            have hLn : Lit (-(i : Int)) := ⟨by omega, by omega, by omega⟩
            have hok2 : Fm.openK k1 i = if !Fm.hasK k1 (i : Int) && !Fm.hasK k1 (-(i : Int)) then i else Fm.openK k1 (i - 1) := by
              obtain ⟨j, rfl⟩ : ∃ j, i = j + 1 := ⟨i - 1, by omega⟩
              simp only [Fm.openK, Nat.add_sub_cancel]
            refine WC.skip ?_
            refine WQ.then_normal ?_
            refine WC.seq ?_
            refine WC.block ?_
            refine WC.seq ?_
            refine WC.region ?_
            refine WL.step ?_
            refine WL.loadW F.agg103 rfl rfl (by repeat (first | exact List.Mem.head _ | apply List.Mem.tail)) rfl ?_
            refine WL.step ?_
            refine WL.move rfl rfl ?_
            refine WL.step ?_
            refine WL.callV F.fun65 rfl rfl (fun w _ => has_c k1 _ hk1 hLi w) ?_
            refine WL.step ?_
            refine WL.not rfl rfl ?_
            refine WL.step ?_
            refine WL.move rfl rfl ?_
            refine WA.splitB (i := 55) rfl (fun h55 => ?_) (fun h55 => ?_)
            · skip
              refine WL.step (WL.guardT rfl rfl rfl ?_)
              refine WL.loadW F.agg103 rfl rfl (by repeat (first | exact List.Mem.head _ | apply List.Mem.tail)) rfl ?_
              refine WL.step (WL.guardT rfl rfl rfl ?_)
              refine WL.move rfl rfl ?_
              refine WL.step (WL.guardT rfl rfl rfl ?_)
              refine WL.negI rfl rfl (by omega) ?_
              refine WL.step (WL.guardT rfl rfl rfl ?_)
              refine WL.callV F.fun65 rfl rfl (fun w _ => has_c k1 _ hk1 hLn w) ?_
              refine WL.step (WL.guardT rfl rfl rfl ?_)
              refine WL.not rfl rfl ?_
              refine WL.step ?_
              refine WL.pickT rfl rfl rfl ?_
              refine WL.nil ?_
              refine WQ.then_normal ?_
              refine WC.cond rfl (fun h61 => ?_) (fun h61 => ?_)
              · skip
                have hoi : Fm.openK k1 n = i := by rw [hop, hok2, h55, h61]; rfl
                rw [if_neg (by rw [hoi]; omega), hoi] at sol
                refine WC.seq ?_
                refine WC.region ?_
                refine WL.step ?_
                refine WL.move rfl rfl ?_
                refine WL.step ?_
                refine WL.move rfl rfl ?_
                refine WL.step ?_
                refine WL.negI rfl rfl (by omega) ?_
                refine WL.step ?_
                refine WL.buildSlice F.sl54 F.ez54 rfl rfl rfl rfl (by repeat (first | exact Built.nil | apply Built.one rfl rfl (by repeat constructor) | apply Built.agg rfl rfl (by repeat constructor))) rfl (fun b65 => ?_)
                refine WL.step ?_
                refine WL.appendE (news := [.int .i64 (-(i : Int))]) F.el54 rfl rfl rfl (by repeat (first | exact Rem.here | apply Rem.there)) (fun w hS j u hu => by rw [Nat.zero_add]; exact hS.cell (cs := [.int .i64 (-(i : Int))]) (by repeat (first | exact List.Mem.head _ | apply List.Mem.tail)) hu) rfl (by simp [Value.oneCell']) (Nat.le_trans (m := 1099511627776) (by omega) (by decide)) (by omega) (fun a3 c3 => ?_)
                refine WL.step ?_
                refine WL.assign rfl rfl ?_
                refine WL.nil ?_
                refine WQ.then_normal ?_
                refine WC.exit ?_
                refine WQ.block_other rfl ?_
                refine WQ.then_exit ?_
                refine WQ.then_exit ?_
                refine WQ.block_other rfl ?_
                refine WQ.then_exit ?_
                refine WQ.then_exit ?_
                refine WQ.block_exit ?_
                refine WQ.chunks (C' := [pt b4 [.bool false, .int .u32 0, .slice none 0 0] 43, rowc (.slice aa (ls ++ ss).length ca) (ls ++ ss).length 54 1 hs, rowc (.slice pa nP pc) nP 54 1 vs, rowc (.slice a3 (nT + 1) c3) (nT + 1) 3 1 (ps ++ [.int .i64 (-(i : Int))]), stepsC Fb vs ss]) (fun w hS => ((St.pick (St.pick (St.pick (St.pick (St.pick hS (c := stepsC Fb vs ss) (by repeat (first | exact Rem.here | apply Rem.there))) (c := rowc (.slice a3 (nT + 1) c3) (nT + 1) 3 1 (ps ++ [.int .i64 (-(i : Int))])) (by repeat (first | exact Rem.here | apply Rem.there))) (c := rowc (.slice pa nP pc) nP 54 1 vs) (by repeat (first | exact Rem.here | apply Rem.there))) (c := rowc (.slice aa (ls ++ ss).length ca) (ls ++ ss).length 54 1 hs) (by repeat (first | exact Rem.here | apply Rem.there))) (c := pt b4 [.bool false, .int .u32 0, .slice none 0 0] 43) (by repeat (first | exact Rem.here | apply Rem.there)))).sublist (List.Sublist.cons_cons _ (List.Sublist.cons_cons _ (List.Sublist.cons_cons _ (List.Sublist.cons_cons _ (List.Sublist.cons_cons _ (List.nil_sublist _))))))) ?_
                refine WQ.back (⟨f, path ++ [-(i : Int)], ss, vs, hs, ps ++ [.int .i64 (-(i : Int))], Fb, aa, pa, a3, ca, pc, c3, (ls ++ ss).length, nP, nT + 1⟩) ?_ ?_ ?_ ?_
                · exact ⟨sol, hhs, by show ps ++ _ = (path ++ _).map _; rw [hps]; simp, by show (ls ++ ss).length = _; rw [List.length_append], hP, by show nT + 1 = (path ++ [_]).length; rw [hT]; simp, by intro x hx; rcases List.mem_append.1 hx with hx | hx; exact hlit x hx; simp at hx; subst hx; exact ⟨by omega, by omega, by omega⟩, hslit, hslen, by show (path ++ [_]).length + f ≤ _; simp; omega, by show ss.length + f ≤ _; omega⟩
                · exact Nat.lt_succ_self f
                · exact ⟨rfl, rfl, rfl, rfl, rfl, trivial⟩
                · rfl
              · skip
                have hop2 : Fm.openK k1 n = Fm.openK k1 (i - 1) := by rw [hop, hok2, h55, h61]; rfl
                refine WC.skip ?_
                refine WQ.block_normal ?_
                refine WQ.then_normal ?_
                refine WC.region ?_
                refine WL.step ?_
                refine WL.move rfl rfl ?_
                refine WL.step ?_
                refine WL.sub rfl rfl rfl ⟨by omega, by omega⟩ ?_
                refine WL.step ?_
                refine WL.assign rfl rfl ?_
                refine WL.nil ?_
                obtain ⟨i, rfl⟩ : ∃ i2, i = i2 + 1 := ⟨i - 1, by omega⟩
                rw [show (((i + 1 : Nat) : Int) - 1) = (i : Int) by omega]
                refine WQ.back (i) ?_ ?_ ?_ ?_
                · exact ⟨by omega, hop2⟩
                · omega
                · exact ⟨rfl, rfl, rfl, rfl, rfl, rfl, rfl, trivial⟩
                · rfl
            · skip
              have hop2 : Fm.openK k1 n = Fm.openK k1 (i - 1) := by rw [hop, hok2, h55]; rfl
              refine WL.step (WL.guardF rfl rfl rfl rfl rfl rfl ?_)
              refine WL.step (WL.guardF rfl rfl rfl rfl rfl rfl ?_)
              refine WL.step (WL.guardF rfl rfl rfl rfl rfl rfl ?_)
              refine WL.step (WL.guardF rfl rfl rfl rfl rfl rfl ?_)
              refine WL.step (WL.guardF rfl rfl rfl rfl rfl rfl ?_)
              refine WL.step ?_
              refine WL.pickF rfl rfl rfl ?_
              refine WL.nil ?_
              refine WQ.then_normal ?_
              refine WC.condF rfl ?_
              refine WC.skip ?_
              refine WQ.block_normal ?_
              refine WQ.then_normal ?_
              refine WC.region ?_
              refine WL.step ?_
              refine WL.move rfl rfl ?_
              refine WL.step ?_
              refine WL.sub rfl rfl rfl ⟨by omega, by omega⟩ ?_
              refine WL.step ?_
              refine WL.assign rfl rfl ?_
              refine WL.nil ?_
              obtain ⟨i, rfl⟩ : ∃ i2, i = i2 + 1 := ⟨i - 1, by omega⟩
              rw [show (((i + 1 : Nat) : Int) - 1) = (i : Int) by omega]
              refine WQ.back (i) ?_ ?_ ?_ ?_
              · exact ⟨by omega, hop2⟩
              · omega
              · exact ⟨rfl, rfl, rfl, rfl, rfl, rfl, rfl, trivial⟩
              · rfl
          · skip
            have hi0 : i = 0 := by simp at h48; omega
            subst hi0
            have hop0 : Fm.openK k1 n = 0 := hop
            rw [if_pos hop0] at sol
            injection sol with sol
            refine WC.exit ?_
            refine WQ.then_exit ?_
            refine WQ.then_exit ?_
            refine WQ.block_exit ?_
            refine WQ.then_normal ?_
            refine WC.seq ?_
            refine WC.region ?_
            refine WL.step ?_
            refine WL.fieldAddr0 F.fld103_0 rfl rfl ?_
            refine WL.step ?_
            refine WL.loadP F.one41 rfl rfl (by repeat (first | exact List.Mem.head _ | apply List.Mem.tail)) rfl ?_
            refine WL.step ?_
            refine WL.build F.stT43 rfl (by repeat (first | exact Built.nil | apply Built.one rfl rfl (by repeat constructor) | apply Built.agg rfl rfl (by repeat constructor))) rfl ?_
            refine WL.step ?_
            refine WL.storeN F.agg43 rfl rfl rfl (by simp [Value.oneCell']) (by repeat (first | exact Upd.here | apply Upd.there)) (by repeat constructor) ?_
            refine WL.step ?_
            refine WL.assign rfl rfl ?_
            refine WL.nil ?_
            refine WQ.then_normal ?_
            refine WC.ret ?_
            refine WQ.then_ret ?_
            refine WQ.block_ret ?_
            refine WQ.then_ret ?_
            refine WQ.block_ret ?_
            refine WQ.scope_ret ?_
            refine WQ.ret (rs := [.cell 4 43, .tmp 5]) rfl (.cellN F.agg43 rfl (by repeat (first | exact List.Mem.head _ | apply List.Mem.tail)) rfl (.tmp rfl .nil)) (fun w hS => .inr ⟨hme, (none, 0), [], [], ?_, ?_⟩)
            · rw [← sol]; rfl
            · rw [← sol]; exact (((hS.sublist (List.nil_sublist _)).stepsNil).rowNil 54 1)
        · skip
          have hok : ok = false := h45
          subst hok
          simp only at sol
          refine WC.skip ?_
          refine WQ.then_normal ?_
          refine WC.block ?_
          obtain ⟨fo, hfo0⟩ : ∃ fo, fo = f := ⟨_, rfl⟩
          refine WC.chunks (C' := [pt b4 [.bool false, .int .u32 0, .slice none 0 0] 43, rowc (.slice aa (ls ++ ss).length ca) (ls ++ ss).length 54 1 hs, rowc (.slice pa nP pc) nP 54 1 vs, rowc (.slice ta nT tc) nT 3 1 ps, stepsC Fb vs ss]) (fun w hS => ((St.pick (St.pick (St.pick (St.pick (St.pick hS (c := stepsC Fb vs ss) (by repeat (first | exact Rem.here | apply Rem.there))) (c := rowc (.slice ta nT tc) nT 3 1 ps) (by repeat (first | exact Rem.here | apply Rem.there))) (c := rowc (.slice pa nP pc) nP 54 1 vs) (by repeat (first | exact Rem.here | apply Rem.there))) (c := rowc (.slice aa (ls ++ ss).length ca) (ls ++ ss).length 54 1 hs) (by repeat (first | exact Rem.here | apply Rem.there))) (c := pt b4 [.bool false, .int .u32 0, .slice none 0 0] 43) (by repeat (first | exact Rem.here | apply Rem.there)))).sublist (List.Sublist.cons_cons _ (List.Sublist.cons_cons _ (List.Sublist.cons_cons _ (List.Sublist.cons_cons _ (List.Sublist.cons_cons _ (List.nil_sublist _))))))) ?_
          refine WC.loop (α := SG) (fun g => SInv n ls us r true g ∧ g.f ≤ fo) (fun g => [(0, .int .i64 (n : Int)), (4, pp b4), (7, .slice g.aa g.nA g.ca), (8, .slice g.ta g.nT g.tc), (9, .slice g.pa g.nP g.pc)]) (fun g => [pt b4 [.bool false, .int .u32 0, .slice none 0 0] 43, rowc (.slice g.aa g.nA g.ca) g.nA 54 1 g.hs, rowc (.slice g.pa g.nP g.pc) g.nP 54 1 g.vs, rowc (.slice g.ta g.nT g.tc) g.nT 3 1 g.ps, stepsC g.F g.vs g.ss]) (fun g => g.f) (⟨f, path, ss, vs, hs, ps, Fb, aa, pa, ta, ca, pc, tc, (ls ++ ss).length, nP, nT⟩) ?_ ?_ ?_ ?_
          · exact ⟨⟨sol, hhs, hps, by show (ls ++ ss).length = _; rw [List.length_append], hP, hT, hlit, hslit, hslen, by show path.length + f ≤ _; omega, by show ss.length + f ≤ _; omega⟩, by show f ≤ fo; omega⟩
          · exact ⟨rfl, rfl, rfl, rfl, rfl, trivial⟩
          · rfl
          rintro ⟨f, path, ss, vs, hs, ps, Fb, aa, pa, ta, ca, pc, tc, nA, nP, nT⟩ ⟨hI, hfo⟩
          dsimp only at hfo
          obtain ⟨sol, hhs, hps, hA, hP, hT, hlit, hslit, hslen, hbp, hbs⟩ := hI
          dsimp only at sol hhs hps hA hP hT hlit hslit hslen hbp hbs
          obtain ⟨f, rfl⟩ : ∃ f2, f = f2 + 1 := by cases f with | zero => simp [Fm.solveF] at sol | succ f => exact ⟨f, rfl⟩
          show WC _ _ _ _ _ _ _ [(0, .int .i64 (n : Int)), (4, pp b4), (7, .slice aa nA ca), (8, .slice ta nT tc), (9, .slice pa nP pc)] [pt b4 [.bool false, .int .u32 0, .slice none 0 0] 43, rowc (.slice aa nA ca) nA 54 1 hs, rowc (.slice pa nP pc) nP 54 1 vs, rowc (.slice ta nT tc) nT 3 1 ps, stepsC Fb vs ss]
          rw [solveF_true] at sol
          refine WC.block ?_
          refine WC.seq ?_
          refine WC.region ?_
          refine WL.step ?_
          refine WL.move rfl rfl ?_
          refine WL.step ?_
          refine WL.lenSl F.und54 rfl rfl ?_
          refine WL.step ?_
          refine WL.makeSlice F.und54 F.info3 rfl rfl rfl rfl (by omega) (by omega) (fun b72 => ?_)
          rw [← stepAt_zero hT]
          refine WL.step ?_
          refine WL.assign rfl rfl ?_
          refine WL.nil ?_
          refine WQ.then_normal ?_
          refine WC.seq ?_
          refine WC.seq ?_
          refine WC.region ?_
          refine WL.step ?_
          refine WL.move rfl rfl ?_
          refine WL.step ?_
          refine WL.lenSl F.und54 rfl rfl ?_
          refine WL.step ?_
          refine WL.move rfl rfl ?_
          refine WL.nil ?_
          refine WQ.then_normal ?_
          refine WC.block ?_
          refine WC.loop (α := Nat) (fun i => i ≤ nT) (fun i => [(0, .int .i64 (n : Int)), (4, pp b4), (7, .slice aa nA ca), (8, .slice ta nT tc), (9, .slice pa nP pc), (15, .slice (some ⟨b72, 0, none⟩) nT nT), (73, .slice ta nT tc), (74, .int .i64 (nT : Int)), (75, .int .i64 (i : Int))]) (fun i => [pt b72 (stepAt path i) 3, pt b4 [.bool false, .int .u32 0, .slice none 0 0] 43, rowc (.slice aa nA ca) nA 54 1 hs, rowc (.slice pa nP pc) nP 54 1 vs, rowc (.slice ta nT tc) nT 3 1 ps, stepsC Fb vs ss]) (fun i => nT - i) (0) ?_ ?_ ?_ ?_
          · exact Nat.zero_le _
          · exact ⟨rfl, rfl, rfl, rfl, rfl, rfl, rfl, rfl, rfl, trivial⟩
          · rfl
          rintro i hi
          refine WC.seq ?_
          refine WC.region ?_
          refine WL.step ?_
          refine WL.ltI rfl rfl rfl ?_
          refine WL.nil ?_
          refine WQ.then_normal ?_
          refine WC.seq ?_
          refine WC.cond rfl (fun h76 => ?_) (fun h76 => ?_)
          · skip
            have hlt : i < nT := by simpa using h76
            obtain ⟨x, hx⟩ : ∃ x, path[i]? = some x := ⟨_, List.getElem?_eq_getElem (by omega)⟩
            have hxl := hlit x (List.mem_of_getElem? hx)
            refine WC.know (φ := ∃ g, ta = some ⟨g, 0, none⟩ ∧ nT = nT ∧ nT ≤ tc) (fun w hS => rowc_addr (hS.ok (rowc (.slice ta nT tc) nT 3 1 ps) (by repeat (first | exact List.Mem.head _ | apply List.Mem.tail))) (by omega)) (fun ⟨g, hta, _, _⟩ => ?_)
            subst hta
            refine WC.skip ?_
            refine WQ.then_normal ?_
            refine WC.seq ?_
            refine WC.block ?_
            refine WC.seq ?_
            refine WC.region ?_
            refine WL.step ?_
            refine WL.move rfl rfl ?_
            refine WL.step ?_
            refine WL.indexAddr F.sl54 rfl rfl rfl hlt ?_
            refine WL.step ?_
            refine WL.load1 F.one3 rfl rfl (v := .int .i64 x) (fun w hS => by simpa using rowc_cell (hS.ok (rowc (.slice (some ⟨g, 0, none⟩) nT tc) nT 3 1 ps) (by repeat (first | exact List.Mem.head _ | apply List.Mem.tail))) (u := .int .i64 x) (by rw [hps]; simp [hx])) ?_
            refine WL.step ?_
            refine WL.assign rfl rfl ?_
            refine WL.step ?_
            refine WL.assign rfl rfl ?_
            refine WL.nil ?_
            refine WQ.then_normal ?_
            refine WC.region ?_
            refine WL.step ?_
            refine WL.move rfl rfl ?_
            refine WL.step ?_
            refine WL.move rfl rfl ?_
            refine WL.step ?_
            refine WL.move rfl rfl ?_
            refine WL.step ?_
            refine WL.negI rfl rfl (by omega) ?_
            refine WL.step ?_
            refine WL.indexAddr F.sl54 rfl rfl rfl hlt ?_
            refine WL.step ?_
            refine WL.store1 (cs := stepAt path i) (cs' := stepAt path (i + 1)) F.one3 rfl rfl rfl (by repeat (first | exact Upd.here | apply Upd.there)) (by have h9 := setN_set (stepAt path i) i (.int .i64 (-x)) (by rw [stepAt_len (by omega)]; omega); rw [stepAt_set hx] at h9; simpa using h9) ?_
            refine WL.nil ?_
            refine WQ.block_normal ?_
            refine WQ.then_normal ?_
            refine WC.region ?_
            refine WL.step ?_
            refine WL.add rfl rfl rfl ⟨by omega, by omega⟩ ?_
            refine WL.step ?_
            refine WL.move rfl rfl ?_
            refine WL.nil ?_
            refine WQ.back (i + 1) ?_ ?_ ?_ ?_
            · exact by omega
            · omega
            · exact ⟨rfl, rfl, rfl, rfl, rfl, rfl, rfl, rfl, rfl, trivial⟩
            · rfl
          · skip
            have hie : i = nT := by simp at h76; omega
            subst hie
            have hse : stepAt path i = (path.map (fun x => -x)).map (Value.int .i64) := by rw [hT]; exact stepAt_end
            have hcl : (path.map (fun x => -x)).length = i := by simp [hT]
            refine WC.exit ?_
            refine WQ.then_exit ?_
            refine WQ.then_exit ?_
            refine WQ.block_exit ?_
            refine WQ.then_normal ?_
            refine WC.seq ?_
            refine WC.region ?_
            refine WL.step ?_
            refine WL.move rfl rfl ?_
            refine WL.step ?_
            refine WL.move rfl rfl ?_
            refine WL.step ?_
            refine WL.buildSlice F.sl38 F.ez38 rfl rfl rfl rfl (by repeat (first | exact Built.nil | apply Built.one rfl rfl (by repeat constructor) | apply Built.agg rfl rfl (by repeat constructor))) rfl (fun b88 => ?_)
            refine WL.step ?_
            refine WL.appendE (news := [Value.slice (some ⟨b72, 0, none⟩) i i]) F.el38 rfl rfl rfl (by repeat (first | exact Rem.here | apply Rem.there)) (fun w hS j u hu => by rw [Nat.zero_add]; exact hS.cell (cs := [Value.slice (some ⟨b72, 0, none⟩) i i]) (by repeat (first | exact List.Mem.head _ | apply List.Mem.tail)) hu) rfl (by simp [Value.oneCell']) (Nat.le_trans (m := 1099511627776) (by omega) (by decide)) (by omega) (fun a4 c4 => ?_)
            refine WL.step ?_
            refine WL.assign rfl rfl ?_
            refine WL.nil ?_
            refine WQ.then_normal ?_
            refine WC.seq ?_
            refine WC.region ?_
            refine WL.step ?_
            refine WL.move rfl rfl ?_
            refine WL.step ?_
            refine WL.move rfl rfl ?_
            refine WL.step ?_
            refine WL.buildSlice F.sl38 F.ez38 rfl rfl rfl rfl (by repeat (first | exact Built.nil | apply Built.one rfl rfl (by repeat constructor) | apply Built.agg rfl rfl (by repeat constructor))) rfl (fun b92 => ?_)
            refine WL.step ?_
            refine WL.appendE (news := [Value.slice (some ⟨b72, 0, none⟩) i i]) F.el38 rfl rfl rfl (by repeat (first | exact Rem.here | apply Rem.there)) (fun w hS j u hu => by rw [Nat.zero_add]; exact hS.cell (cs := [Value.slice (some ⟨b72, 0, none⟩) i i]) (by repeat (first | exact List.Mem.head _ | apply List.Mem.tail)) hu) rfl (by simp [Value.oneCell']) (Nat.le_trans (m := 1099511627776) (by omega) (by decide)) (by omega) (fun a5 c5 => ?_)
            refine WL.step ?_
            refine WL.assign rfl rfl ?_
            refine WA.chunks (C' := [pt b4 [.bool false, .int .u32 0, .slice none 0 0] 43, rowc (.slice a5 (nA + 1) c5) (nA + 1) 54 1 (hs ++ [Value.slice (some ⟨b72, 0, none⟩) i i]), rowc (.slice a4 (nP + 1) c4) (nP + 1) 54 1 (vs ++ [Value.slice (some ⟨b72, 0, none⟩) i i]), rowc (.slice ta i tc) i 3 1 ps, stepsC (b72 :: Fb) (vs ++ [Value.slice (some ⟨b72, 0, none⟩) i i]) (ss ++ [(path.map (fun x => -x))])]) (fun w hS => ?_) ?_
            · rw [hse] at hS
              have h9 := St.stepsSnoc (St.pick (St.pick hS (c := pt b72 ((path.map (fun x => -x)).map (Value.int .i64)) 3) (by repeat (first | exact Rem.here | apply Rem.there))) (c := stepsC Fb vs ss) (by repeat (first | exact Rem.here | apply Rem.there)))
              rw [hcl] at h9
              exact ((St.pick (St.pick (St.pick (St.pick (St.pick h9 (c := stepsC (b72 :: Fb) (vs ++ [Value.slice (some ⟨b72, 0, none⟩) i i]) (ss ++ [(path.map (fun x => -x))])) (by repeat (first | exact Rem.here | apply Rem.there))) (c := rowc (.slice ta i tc) i 3 1 ps) (by repeat (first | exact Rem.here | apply Rem.there))) (c := rowc (.slice a4 (nP + 1) c4) (nP + 1) 54 1 (vs ++ [Value.slice (some ⟨b72, 0, none⟩) i i])) (by repeat (first | exact Rem.here | apply Rem.there))) (c := rowc (.slice a5 (nA + 1) c5) (nA + 1) 54 1 (hs ++ [Value.slice (some ⟨b72, 0, none⟩) i i])) (by repeat (first | exact Rem.here | apply Rem.there))) (c := pt b4 [.bool false, .int .u32 0, .slice none 0 0] 43) (by repeat (first | exact Rem.here | apply Rem.there)))).sublist (List.Sublist.cons_cons _ (List.Sublist.cons_cons _ (List.Sublist.cons_cons _ (List.Sublist.cons_cons _ (List.Sublist.cons_cons _ (List.nil_sublist _))))))
            refine WL.nil ?_
            refine WQ.then_normal ?_
            refine WC.seq ?_
            refine WC.seq ?_
            refine WC.region ?_
            refine WL.step ?_
            refine WL.move rfl rfl ?_
            refine WL.step ?_
            refine WL.lenSl F.und54 rfl rfl ?_
            refine WL.step ?_
            refine WL.eqI rfl rfl rfl ?_
            refine WL.nil ?_
            refine WQ.then_normal ?_
            refine WC.cond rfl (fun h96 => ?_) (fun h96 => ?_)
            · skip
              have hp0 : path = [] := List.eq_nil_of_length_eq_zero (by simp at h96; omega)
              subst hp0
              simp only [List.getLast?_nil] at sol
              injection sol with sol
              refine WC.seq ?_
              refine WC.region ?_
              refine WL.step ?_
              refine WL.move rfl rfl ?_
              refine WL.step ?_
              refine WL.build F.stT43 rfl (by repeat (first | exact Built.nil | apply Built.one rfl rfl (by repeat constructor) | apply Built.agg rfl rfl (by repeat constructor))) rfl ?_
              refine WL.step ?_
              refine WL.storeN F.agg43 rfl rfl rfl (by simp [Value.oneCell']) (by repeat (first | exact Upd.here | apply Upd.there)) (by repeat constructor) ?_
              refine WL.step ?_
              refine WL.assign rfl rfl ?_
              refine WL.nil ?_
              refine WQ.then_normal ?_
              refine WC.ret ?_
              refine WQ.then_ret ?_
              refine WQ.block_ret ?_
              refine WQ.then_ret ?_
              refine WQ.block_ret ?_
              refine WQ.block_ret ?_
              refine WQ.then_ret ?_
              refine WQ.block_ret ?_
              refine WQ.scope_ret ?_
              refine WQ.ret (rs := [.cell 4 43, .tmp 5]) rfl (.cellN F.agg43 rfl (by repeat (first | exact List.Mem.head _ | apply List.Mem.tail)) rfl (.tmp rfl .nil)) (fun w hS => .inr ⟨hme, (a4, c4), b72 :: Fb, vs ++ [Value.slice (some ⟨b72, 0, none⟩) i i], ?_, ?_⟩)
              · have hpl : nP + 1 = r.proof.length := by rw [← sol, hP]; simp
                rw [← hpl, ← sol]; rfl
              · have hpl : nP + 1 = r.proof.length := by rw [← sol, hP]; simp
                have h9 := ((St.pick (St.pick hS (c := stepsC (b72 :: Fb) (vs ++ [Value.slice (some ⟨b72, 0, none⟩) i i]) (ss ++ [([] : List Int).map (fun x => -x)])) (by repeat (first | exact Rem.here | apply Rem.there))) (c := rowc (.slice a4 (nP + 1) c4) (nP + 1) 54 1 (vs ++ [Value.slice (some ⟨b72, 0, none⟩) i i])) (by repeat (first | exact Rem.here | apply Rem.there)))).two2
                rw [← hpl, ← sol]; exact h9
            · skip
              have hp0 : path ≠ [] := by (intro h0; rw [h0] at hT; simp at h96 hT; omega)
              obtain ⟨last, hlast⟩ : ∃ x, path.getLast? = some x := ⟨_, List.getLast?_eq_some_getLast hp0⟩
              rw [hlast] at sol
              simp only at sol
              obtain ⟨hli, hpos⟩ := last_at hT hlast
              have hll := hlit last (List.mem_of_getLast? hlast)
              refine WC.know (φ := ∃ g, ta = some ⟨g, 0, none⟩ ∧ i = i ∧ i ≤ tc) (fun w hS => rowc_addr (hS.ok (rowc (.slice ta i tc) i 3 1 ps) (by repeat (first | exact List.Mem.head _ | apply List.Mem.tail))) hpos) (fun ⟨g, hta, _, htc⟩ => ?_)
              subst hta
              have htk : ps.take (i - 1) = path.dropLast.map (Value.int .i64) := by rw [hps, ← List.map_take, List.dropLast_eq_take, hT]
              have hslit5 : ∀ c ∈ ss ++ [(path.map (fun x => -x))], ∀ x ∈ c, Lit x := by
                intro c hc x hx
                rcases List.mem_append.1 hc with hc | hc
                · exact hslit c hc x hx
                · simp only [List.mem_singleton] at hc
                  subst hc
                  obtain ⟨y, hy, hyx⟩ := List.mem_map.1 hx
                  rw [← hyx]; exact Lit.neg (hlit y hy)
              have hslen5 : ∀ c ∈ ss ++ [(path.map (fun x => -x))], c.length ≤ 1099511627776 := by
                intro c hc
                rcases List.mem_append.1 hc with hc | hc
                · exact hslen c hc
                · simp only [List.mem_singleton] at hc
                  subst hc
                  simp; omega
              have hbs5 : (ss ++ [(path.map (fun x => -x))]).length + f ≤ 1073741824 := by simp; omega
              have hdl : path.dropLast.length = i - 1 := by simp [hT]
              refine WC.skip ?_
              refine WQ.then_normal ?_
              refine WC.seq ?_
              refine WC.region ?_
              refine WL.step ?_
              refine WL.move rfl rfl ?_
              refine WL.step ?_
              refine WL.move rfl rfl ?_
              refine WL.step ?_
              refine WL.lenSl F.und54 rfl rfl ?_
              refine WL.step ?_
              refine WL.sub rfl rfl rfl ⟨by omega, by omega⟩ ?_
              refine WA.say 102 (.int .i64 ((i - 1 : Nat) : Int)) (congrArg (fun z => some (Value.int .i64 z)) (show (i : Int) - 1 = ((i - 1 : Nat) : Int) by omega)) ?_
              refine WL.step ?_
              refine WL.indexAddr F.sl54 rfl rfl rfl (i := i - 1) (by omega) ?_
              refine WL.step ?_
              refine WL.load1 F.one3 rfl rfl (v := .int .i64 last) (fun w hS => by simpa using rowc_cell (hS.ok (rowc (.slice (some ⟨g, 0, none⟩) i tc) i 3 1 ps) (by repeat (first | exact List.Mem.head _ | apply List.Mem.tail))) (u := .int .i64 last) (by rw [hps]; simp [hli])) ?_
              refine WL.step ?_
              refine WL.assign rfl rfl ?_
              refine WL.nil ?_
              refine WQ.then_normal ?_
              refine WC.seq ?_
              refine WC.region ?_
              refine WL.step ?_
              refine WL.move rfl rfl ?_
              refine WL.step ?_
              refine WL.move rfl rfl ?_
              refine WL.step ?_
              refine WL.lenSl F.und54 rfl rfl ?_
              refine WL.step ?_
              refine WL.sub rfl rfl rfl ⟨by omega, by omega⟩ ?_
              refine WA.say 108 (.int .i64 ((i - 1 : Nat) : Int)) (congrArg (fun z => some (Value.int .i64 z)) (show (i : Int) - 1 = ((i - 1 : Nat) : Int) by omega)) ?_
              refine WL.step ?_
              refine WL.y (F := fun _ => True) (Yl.sliceSlTo (n := i - 1) F.sl54 rfl rfl (by omega)) rfl (fun _ _ => trivial) ?_
              refine WL.step ?_
              refine WL.assign rfl rfl ?_
              refine WA.chunks (fun w hS => (St.rowTake (St.pick hS (c := rowc (.slice (some ⟨g, 0, none⟩) i tc) i 3 1 ps) (by repeat (first | exact Rem.here | apply Rem.there))) hpos (k := i - 1) (by omega))) ?_
              refine WL.nil ?_
              refine WQ.then_normal ?_
              refine WC.seq ?_
              refine WC.region ?_
              refine WL.step ?_
              refine WL.move rfl rfl ?_
              refine WL.step ?_
              refine WL.ltI rfl rfl rfl ?_
              refine WL.nil ?_
              refine WQ.then_normal ?_
              refine WC.cond rfl (fun h111 => ?_) (fun h111 => ?_)
              · skip
                have hneg : last < 0 := by simpa using h111
                rw [if_pos hneg, List.append_assoc] at sol
                refine WC.seq ?_
                refine WC.region ?_
                refine WL.step ?_
                refine WL.move rfl rfl ?_
                refine WL.step ?_
                refine WL.move rfl rfl ?_
                refine WL.step ?_
                refine WL.negI rfl rfl (by omega) ?_
                refine WL.step ?_
                refine WL.buildSlice F.sl54 F.ez54 rfl rfl rfl rfl (by repeat (first | exact Built.nil | apply Built.one rfl rfl (by repeat constructor) | apply Built.agg rfl rfl (by repeat constructor))) rfl (fun b115 => ?_)
                refine WL.step ?_
                refine WL.appendE (news := [.int .i64 (-last)]) F.el54 rfl rfl rfl (by repeat (first | exact Rem.here | apply Rem.there)) (fun w hS j u hu => by rw [Nat.zero_add]; exact hS.cell (cs := [.int .i64 (-last)]) (by repeat (first | exact List.Mem.head _ | apply List.Mem.tail)) hu) rfl (by simp [Value.oneCell']) (Nat.le_trans (m := 1099511627776) (by omega) (by decide)) (by omega) (fun a6 c6 => ?_)
                refine WL.step ?_
                refine WL.assign rfl rfl ?_
                refine WL.nil ?_
                refine WQ.then_normal ?_
                refine WC.exit ?_
                refine WQ.block_other rfl ?_
                refine WQ.then_exit ?_
                refine WQ.block_other rfl ?_
                refine WQ.block_exit ?_
                refine WQ.chunks (C' := [pt b4 [.bool false, .int .u32 0, .slice none 0 0] 43, rowc (.slice a5 (nA + 1) c5) (nA + 1) 54 1 (hs ++ [Value.slice (some ⟨b72, 0, none⟩) i i]), rowc (.slice a4 (nP + 1) c4) (nP + 1) 54 1 (vs ++ [Value.slice (some ⟨b72, 0, none⟩) i i]), rowc (.slice a6 (i - 1 + 1) c6) (i - 1 + 1) 3 1 (ps.take (i - 1) ++ [.int .i64 (-last)]), stepsC (b72 :: Fb) (vs ++ [Value.slice (some ⟨b72, 0, none⟩) i i]) (ss ++ [(path.map (fun x => -x))])]) (fun w hS => ((St.pick (St.pick (St.pick (St.pick (St.pick hS (c := stepsC (b72 :: Fb) (vs ++ [Value.slice (some ⟨b72, 0, none⟩) i i]) (ss ++ [(path.map (fun x => -x))])) (by repeat (first | exact Rem.here | apply Rem.there))) (c := rowc (.slice a6 (i - 1 + 1) c6) (i - 1 + 1) 3 1 (ps.take (i - 1) ++ [.int .i64 (-last)])) (by repeat (first | exact Rem.here | apply Rem.there))) (c := rowc (.slice a4 (nP + 1) c4) (nP + 1) 54 1 (vs ++ [Value.slice (some ⟨b72, 0, none⟩) i i])) (by repeat (first | exact Rem.here | apply Rem.there))) (c := rowc (.slice a5 (nA + 1) c5) (nA + 1) 54 1 (hs ++ [Value.slice (some ⟨b72, 0, none⟩) i i])) (by repeat (first | exact Rem.here | apply Rem.there))) (c := pt b4 [.bool false, .int .u32 0, .slice none 0 0] 43) (by repeat (first | exact Rem.here | apply Rem.there)))).sublist (List.Sublist.cons_cons _ (List.Sublist.cons_cons _ (List.Sublist.cons_cons _ (List.Sublist.cons_cons _ (List.Sublist.cons_cons _ (List.nil_sublist _))))))) ?_
                refine WQ.back (⟨f, path.dropLast ++ [-last], ss ++ [(path.map (fun x => -x))], vs ++ [Value.slice (some ⟨b72, 0, none⟩) i i], hs ++ [Value.slice (some ⟨b72, 0, none⟩) i i], ps.take (i - 1) ++ [.int .i64 (-last)], b72 :: Fb, a5, a4, a6, c5, c4, c6, nA + 1, nP + 1, i - 1 + 1⟩) ?_ ?_ ?_ ?_
                · exact ⟨sol, by show hs ++ _ = us ++ (vs ++ _); rw [hhs, List.append_assoc], by show ps.take (i - 1) ++ _ = (path.dropLast ++ _).map _; rw [htk]; simp, by show nA + 1 = ls.length + (ss ++ [_]).length; rw [hA]; simp; omega, by show nP + 1 = (ss ++ [_]).length; rw [hP]; simp, by show i - 1 + 1 = (path.dropLast ++ [_]).length; simp; omega, by intro x hx; rcases List.mem_append.1 hx with hx | hx; exact hlit x ((List.dropLast_sublist path).subset hx); simp at hx; subst hx; exact ⟨by omega, by omega, by omega⟩, hslit5, hslen5, by show (path.dropLast ++ [_]).length + f ≤ _; simp; omega, hbs5⟩
                · dsimp only; omega
                · exact ⟨rfl, rfl, rfl, rfl, rfl, trivial⟩
                · rfl
              · skip
                have hneg : ¬ last < 0 := by simpa using h111
                rw [if_neg hneg, List.append_assoc] at sol
                refine WC.skip ?_
                refine WQ.block_normal ?_
                refine WQ.chunks (C' := [pt b4 [.bool false, .int .u32 0, .slice none 0 0] 43, rowc (.slice a5 (nA + 1) c5) (nA + 1) 54 1 (hs ++ [Value.slice (some ⟨b72, 0, none⟩) i i]), rowc (.slice a4 (nP + 1) c4) (nP + 1) 54 1 (vs ++ [Value.slice (some ⟨b72, 0, none⟩) i i]), rowc (.slice (some ⟨g, 0, none⟩) (i - 1) tc) (i - 1) 3 1 (ps.take (i - 1)), stepsC (b72 :: Fb) (vs ++ [Value.slice (some ⟨b72, 0, none⟩) i i]) (ss ++ [(path.map (fun x => -x))])]) (fun w hS => ((St.pick (St.pick (St.pick (St.pick (St.pick hS (c := stepsC (b72 :: Fb) (vs ++ [Value.slice (some ⟨b72, 0, none⟩) i i]) (ss ++ [(path.map (fun x => -x))])) (by repeat (first | exact Rem.here | apply Rem.there))) (c := rowc (.slice (some ⟨g, 0, none⟩) (i - 1) tc) (i - 1) 3 1 (ps.take (i - 1))) (by repeat (first | exact Rem.here | apply Rem.there))) (c := rowc (.slice a4 (nP + 1) c4) (nP + 1) 54 1 (vs ++ [Value.slice (some ⟨b72, 0, none⟩) i i])) (by repeat (first | exact Rem.here | apply Rem.there))) (c := rowc (.slice a5 (nA + 1) c5) (nA + 1) 54 1 (hs ++ [Value.slice (some ⟨b72, 0, none⟩) i i])) (by repeat (first | exact Rem.here | apply Rem.there))) (c := pt b4 [.bool false, .int .u32 0, .slice none 0 0] 43) (by repeat (first | exact Rem.here | apply Rem.there)))).sublist (List.Sublist.cons_cons _ (List.Sublist.cons_cons _ (List.Sublist.cons_cons _ (List.Sublist.cons_cons _ (List.Sublist.cons_cons _ (List.nil_sublist _))))))) ?_
                refine WQ.back (⟨f, path.dropLast, ss ++ [(path.map (fun x => -x))], vs ++ [Value.slice (some ⟨b72, 0, none⟩) i i], hs ++ [Value.slice (some ⟨b72, 0, none⟩) i i], ps.take (i - 1), b72 :: Fb, a5, a4, some ⟨g, 0, none⟩, c5, c4, tc, nA + 1, nP + 1, i - 1⟩) ?_ ?_ ?_ ?_
                · exact ⟨⟨sol, by show hs ++ _ = us ++ (vs ++ _); rw [hhs, List.append_assoc], by show ps.take (i - 1) = path.dropLast.map _; exact htk, by show nA + 1 = ls.length + (ss ++ [_]).length; rw [hA]; simp; omega, by show nP + 1 = (ss ++ [_]).length; rw [hP]; simp, by show i - 1 = path.dropLast.length; simp; omega, fun x hx => hlit x ((List.dropLast_sublist path).subset hx), hslit5, hslen5, by show path.dropLast.length + f ≤ _; simp; omega, hbs5⟩, by show f ≤ fo; omega⟩
                · exact Nat.lt_succ_self f
                · exact ⟨rfl, rfl, rfl, rfl, rfl, trivial⟩
                · rfl

end Go.Proofs.Ytbippghgkbapnaa

namespace Go.Proofs.Ytbippghgkbapnaa
open Go Go.Eng Go.Proofs
theorem name_c (s : List UInt8) (w : World) : Pure Try.prog 44 [.string (str s)] w (.agg [Value.int .u8 3, .string (str s), .slice none 0 0].toArray) := by
  refine enter Try.func44 rfl Try.ntmps44 rfl (St.init _) ?_
  refine WC.seq ?_
  refine WC.region ?_
  refine WL.step ?_
  refine WL.alloc F.zero25 rfl (fun b2 => ?_)
  refine WL.nil ?_
  refine WQ.then_normal ?_
  refine WC.seq ?_
  refine WC.region ?_
  refine WL.step ?_
  refine WL.move rfl rfl ?_
  refine WL.step ?_
  refine WL.build F.stT25 rfl (by repeat (first | exact Built.nil | apply Built.one rfl rfl (by repeat constructor) | apply Built.agg rfl rfl (by repeat constructor))) rfl ?_
  refine WL.step ?_
  refine WL.storeN F.agg25 rfl rfl rfl (by simp [Value.oneCell']) (by repeat (first | exact Upd.here | apply Upd.there)) (by repeat constructor) ?_
  refine WL.nil ?_
  refine WQ.then_normal ?_
  refine WC.ret ?_
  refine WQ.ret (rs := [.cell 2 25]) rfl (.cellN F.agg25 rfl (by repeat (first | exact List.Mem.head _ | apply List.Mem.tail)) rfl .nil) (fun w hS => ⟨rfl, hS.drop⟩)

def T1 : Tree := .mk 5 [] [.mk 3 [97] [], .mk 3 [98] [], .mk 5 [] [.mk 3 [99] [], .mk 3 [100] []]]
def T2 : Tree := .mk 5 [] [.mk 6 [] [.mk 3 [97] [], .mk 3 [98] []], .mk 4 [] [.mk 3 [99] []]]
theorem top1 : Fm.top [97, 32, 38, 32, 98, 32, 38, 32, 40, 99, 32, 38, 32, 100, 41] = (T1, 0, 0) := by kernel_rfl
theorem top2 : Fm.top [97, 32, 60, 61, 62, 32, 98, 32, 60, 61, 62, 32, 99] = (Fm.zeroTree, 8, 4) := by kernel_rfl
theorem print1 : printS T2 = [40, 97, 32, 124, 32, 98, 41, 32, 38, 32, 33, 99] := by kernel_rfl
theorem valid1 : Fm.validB T2 = true := by kernel_rfl
theorem sol1 : Fm.solveF 2 20 false [[1, 2], [-1]] [] [] = some ⟨true, 2, []⟩ := by kernel_rfl
theorem sol2 : Fm.solveF 1 20 false [[1], [-1]] [] [] = some ⟨false, 0, [[]]⟩ := by kernel_rfl
theorem may1 : Fm.mayE 2 [[1, 2], [-1]] = 0 := by kernel_rfl
theorem may2 : Fm.mayE 1 [[1], [-1]] = 0 := by kernel_rfl
/-- Two clauses that the caller laid. -/
theorem RdLL.two {w0 w : World} {O : List Nat} {C : List Chunk} {b1 b2 b3 : Nat} {c1 c2 : List Int} (hS : St w0 O C w) (h1 : pt b1 (c1.map (Value.int .i64)) 3 ∈ C) (h2 : pt b2 (c2.map (Value.int .i64)) 3 ∈ C)
    (h3 : pt b3 [.slice (some ⟨b1, 0, none⟩) c1.length c1.length, .slice (some ⟨b2, 0, none⟩) c2.length c2.length] 54 ∈ C) :
    RdLL w [c1, c2] (some ⟨b3, 0, none⟩) [.slice (some ⟨b1, 0, none⟩) c1.length c1.length, .slice (some ⟨b2, 0, none⟩) c2.length c2.length] := by
  refine ⟨rfl, fun i u hu => ⟨b3, 0, rfl, by rw [Nat.zero_add]; exact hS.cell h3 hu⟩, fun i c u hc hu => ?_⟩
  match i, hc, hu with
  | 0, hc, hu =>
    simp at hc hu
    subst hc; subst hu
    exact ⟨_, _, rfl, fun j x hx => ⟨b1, 0, rfl, by rw [Nat.zero_add]; exact hS.cell h1 (by simp [hx])⟩⟩
  | 1, hc, hu =>
    simp at hc hu
    subst hc; subst hu
    exact ⟨_, _, rfl, fun j x hx => ⟨b2, 0, rfl, by rw [Nat.zero_add]; exact hS.cell h2 (by simp [hx])⟩⟩
  | i + 2, hc, hu => simp at hc

theorem wakes_c (w : World) : Pure Try.prog 13 [] w (.bool true) := by
  refine enter Try.func13 rfl Try.ntmps13 rfl (St.init _) ?_
  refine WC.seq ?_
  refine WC.region ?_
  refine WL.step ?_
  refine WL.assign rfl rfl ?_
  refine WL.nil ?_
  refine WQ.then_normal ?_
  refine WC.seq ?_
  refine WC.region ?_
  refine WL.step ?_
  refine WL.callC (β := List Nat × Option Addr × Nat) (res := fun y => .tuple #[tv T1 y.2.1 y.2.2, .int .i64 0, .int .i64 0]) (cs := fun y => [own y.1 T1 (tv T1 y.2.1 y.2.2)]) (Cs := []) (O' := []) F.fun14 (fun d h => by cases h; rfl) rfl (List.Perm.refl _) (by simp) (by simp) (fun w hS _ => (Parse_c [97, 32, 38, 32, 98, 32, 38, 32, 40, 99, 32, 38, 32, 100, 41] w).mono (fun e w2 h => ?_)) (fun y14 => ?_)
  · rw [top1] at h
    exact h
  refine WL.step ?_
  refine WL.move rfl rfl ?_
  refine WL.step ?_
  refine WL.extract rfl rfl rfl ?_
  refine WL.step ?_
  refine WL.extract rfl rfl rfl ?_
  refine WL.step ?_
  refine WL.extract rfl rfl rfl ?_
  refine WL.step ?_
  refine WL.alloc F.zero25 rfl (fun b1 => ?_)
  refine WL.step ?_
  refine WL.storeN F.agg25 rfl rfl rfl (by simp [Value.oneCell']) (by repeat (first | exact Upd.here | apply Upd.there)) (by repeat constructor) ?_
  refine WL.step ?_
  refine WL.assign rfl rfl ?_
  refine WL.step ?_
  refine WL.assign rfl rfl ?_
  refine WL.nil ?_
  refine WQ.then_normal ?_
  refine WC.seq ?_
  refine WC.region ?_
  refine WL.step ?_
  refine WL.callV F.fun44 rfl rfl (fun w _ => name_c [97] w) ?_
  refine WL.step ?_
  refine WL.callV F.fun44 rfl rfl (fun w _ => name_c [98] w) ?_
  refine WL.step ?_
  refine WL.buildSlice F.sl23 F.ez23 rfl rfl rfl rfl (by repeat (first | exact Built.nil | apply Built.one rfl rfl (by repeat constructor) | apply Built.agg rfl rfl (by repeat constructor))) rfl (fun b21 => ?_)
  refine WL.step ?_
  refine WL.build F.stT25 rfl (by repeat (first | exact Built.nil | apply Built.one rfl rfl (by repeat constructor) | apply Built.agg rfl rfl (by repeat constructor))) rfl ?_
  refine WL.step ?_
  refine WL.callV F.fun44 rfl rfl (fun w _ => name_c [99] w) ?_
  refine WL.step ?_
  refine WL.buildSlice F.sl23 F.ez23 rfl rfl rfl rfl (by repeat (first | exact Built.nil | apply Built.one rfl rfl (by repeat constructor) | apply Built.agg rfl rfl (by repeat constructor))) rfl (fun b24 => ?_)
  refine WL.step ?_
  refine WL.build F.stT25 rfl (by repeat (first | exact Built.nil | apply Built.one rfl rfl (by repeat constructor) | apply Built.agg rfl rfl (by repeat constructor))) rfl ?_
  refine WL.step ?_
  refine WL.buildSlice F.sl23 F.ez23 rfl rfl rfl rfl (by repeat (first | exact Built.nil | apply Built.one rfl rfl (by repeat constructor) | apply Built.agg rfl rfl (by repeat constructor))) rfl (fun b26 => ?_)
  refine WL.step ?_
  refine WL.build F.stT25 rfl (by repeat (first | exact Built.nil | apply Built.one rfl rfl (by repeat constructor) | apply Built.agg rfl rfl (by repeat constructor))) rfl ?_
  refine WA.chunksE (C' := fun x : List Nat => [own x T2 (.agg #[.int .u8 5, .string (str []), .slice (some ⟨b26, 0, none⟩) 2 2]), pt b1 [.int .u8 T1.op, .string (str T1.name), .slice y14.2.1 T1.kids.length y14.2.2] 25]) (fun w hS => ?_) (fun G => ?_)
  · have a1 := St.node0 3 [98] (St.node0 3 [97] hS)
    have a2 := St.pick a1 (c := own [] (Tree.mk 3 [97] []) (.agg #[.int .u8 3, .string (str [97]), .slice none 0 0])) (by repeat (first | exact Rem.here | apply Rem.there))
    obtain ⟨F1, a3⟩ := St.node2 6 (t1 := Tree.mk 3 [97] []) (t2 := Tree.mk 3 [98] []) (a1 := none) (a2 := none) (c1 := 0) (c2 := 0) (St.pick a2 (c := pt b21 [.int .u8 3, .string (str [97]), .slice none 0 0, .int .u8 3, .string (str [98]), .slice none 0 0] 25) (by repeat (first | exact Rem.here | apply Rem.there)))
    have a4 := St.node0 3 [99] a3
    obtain ⟨F2, a5⟩ := St.node1 4 (t1 := Tree.mk 3 [99] []) (a1 := none) (c1 := 0) (St.pick a4 (c := pt b24 [.int .u8 3, .string (str [99]), .slice none 0 0] 25) (by repeat (first | exact Rem.here | apply Rem.there)))
    have a6 := St.pick a5 (c := own F1 (.mk 6 [] [Tree.mk 3 [97] [], Tree.mk 3 [98] []]) (.agg #[.int .u8 6, .string (str []), .slice (some ⟨b21, 0, none⟩) 2 2])) (by repeat (first | exact Rem.here | apply Rem.there))
    obtain ⟨F3, a7⟩ := St.node2 5 (t1 := .mk 6 [] [Tree.mk 3 [97] [], Tree.mk 3 [98] []]) (t2 := .mk 4 [] [Tree.mk 3 [99] []]) (a1 := some ⟨b21, 0, none⟩) (a2 := some ⟨b24, 0, none⟩) (c1 := 2) (c2 := 1) (St.pick a6 (c := pt b26 [.int .u8 6, .string (str []), .slice (some ⟨b21, 0, none⟩) 2 2, .int .u8 4, .string (str []), .slice (some ⟨b24, 0, none⟩) 1 1] 25) (by repeat (first | exact Rem.here | apply Rem.there)))
    exact ⟨F3, ((St.pick (St.pick a7 (c := pt b1 [.int .u8 T1.op, .string (str T1.name), .slice y14.2.1 T1.kids.length y14.2.2] 25) (by repeat (first | exact Rem.here | apply Rem.there))) (c := own F3 T2 (.agg #[.int .u8 5, .string (str []), .slice (some ⟨b26, 0, none⟩) 2 2])) (by repeat (first | exact Rem.here | apply Rem.there)))).two2⟩
  refine WL.step ?_
  refine WL.callV (v := .tuple #[.string (str [40, 97, 32, 124, 32, 98, 41, 32, 38, 32, 33, 99]), .int .i64 0]) F.fun19 rfl rfl (fun w hS => by have h9 := Print_c T2 G (some ⟨b26, 0, none⟩) 2 w (hS.ok _ (List.Mem.head _)).2; rw [print1, valid1] at h9; exact h9) ?_
  refine WL.step ?_
  refine WL.move rfl rfl ?_
  refine WL.step ?_
  refine WL.extract rfl rfl rfl ?_
  refine WL.step ?_
  refine WL.extract rfl rfl rfl ?_
  refine WL.step ?_
  refine WL.assign rfl rfl ?_
  refine WL.step ?_
  refine WL.assign rfl rfl ?_
  refine WL.nil ?_
  refine WQ.then_normal ?_
  refine WC.seq ?_
  refine WC.region ?_
  refine WL.step ?_
  refine WL.callC (β := List Nat × Option Addr × Nat) (res := fun y => .tuple #[tv Fm.zeroTree y.2.1 y.2.2, .int .i64 8, .int .i64 4]) (cs := fun y => [own y.1 Fm.zeroTree (tv Fm.zeroTree y.2.1 y.2.2)]) (Cs := []) (O' := []) F.fun14 (fun d h => by cases h; rfl) rfl (List.Perm.refl _) (by simp) (by simp) (fun w hS _ => (Parse_c [97, 32, 60, 61, 62, 32, 98, 32, 60, 61, 62, 32, 99] w).mono (fun e w2 h => ?_)) (fun y32 => ?_)
  · rw [top2] at h
    exact h
  refine WL.step ?_
  refine WL.move rfl rfl ?_
  refine WL.step ?_
  refine WL.extract rfl rfl rfl ?_
  refine WL.step ?_
  refine WL.extract rfl rfl rfl ?_
  refine WL.step ?_
  refine WL.extract rfl rfl rfl ?_
  refine WL.step ?_
  refine WL.alloc F.zero25 rfl (fun b6 => ?_)
  refine WL.step ?_
  refine WL.storeN F.agg25 rfl rfl rfl (by simp [Value.oneCell']) (by repeat (first | exact Upd.here | apply Upd.there)) (by repeat constructor) ?_
  refine WL.step ?_
  refine WL.assign rfl rfl ?_
  refine WL.step ?_
  refine WL.assign rfl rfl ?_
  refine WL.nil ?_
  refine WQ.then_normal ?_
  refine WC.seq ?_
  refine WC.region ?_
  refine WL.step ?_
  refine WL.buildSlice F.sl54 F.ez54 rfl rfl rfl rfl (by repeat (first | exact Built.nil | apply Built.one rfl rfl (by repeat constructor) | apply Built.agg rfl rfl (by repeat constructor))) rfl (fun b37 => ?_)
  refine WL.step ?_
  refine WL.buildSlice F.sl54 F.ez54 rfl rfl rfl rfl (by repeat (first | exact Built.nil | apply Built.one rfl rfl (by repeat constructor) | apply Built.agg rfl rfl (by repeat constructor))) rfl (fun b38 => ?_)
  refine WL.step ?_
  refine WL.buildSlice F.sl38 F.ez38 rfl rfl rfl rfl (by repeat (first | exact Built.nil | apply Built.one rfl rfl (by repeat constructor) | apply Built.agg rfl rfl (by repeat constructor))) rfl (fun b39 => ?_)
  refine WL.step ?_
  refine WL.callC (β := Option Addr × Nat) (res := fun x => .tuple #[.agg #[.bool true, .int .u32 2, .slice x.1 0 x.2], .int .i64 0]) (cs := fun _ => []) (Cs := []) (O' := []) F.fun24 (fun d h => by cases h; rfl) rfl (List.Perm.refl _) (by simp) (by simp) (fun w hS _ => (Solve_c 2 [[1, 2], [-1]] (some ⟨b39, 0, none⟩) 2 _ (.inr ⟨_, _, rfl⟩) w (RdLL.two (b1 := b37) (b2 := b38) (b3 := b39) (c1 := [1, 2]) (c2 := [-1]) hS (by repeat (first | exact List.Mem.head _ | apply List.Mem.tail)) (by repeat (first | exact List.Mem.head _ | apply List.Mem.tail)) (by repeat (first | exact List.Mem.head _ | apply List.Mem.tail))) 20 ⟨true, 2, []⟩ (by decide) (fun n hn _ => ?_)).mono (fun e w2 h => ?_)) (fun x40 => ?_)
  · have : n = 2 := by omega
    subst this
    exact sol1
  · rcases h with h | h
    · exact absurd may1 h.1
    · obtain ⟨_, x, F, vs, h1, h2⟩ := h
      exact ⟨x, h1, h2.sublist (List.nil_sublist _)⟩
  refine WL.step ?_
  refine WL.move rfl rfl ?_
  refine WL.step ?_
  refine WL.extract rfl rfl rfl ?_
  refine WL.step ?_
  refine WL.extract rfl rfl rfl ?_
  refine WL.step ?_
  refine WL.alloc F.zero43 rfl (fun b9 => ?_)
  refine WL.step ?_
  refine WL.storeN F.agg43 rfl rfl rfl (by simp [Value.oneCell']) (by repeat (first | exact Upd.here | apply Upd.there)) (by repeat constructor) ?_
  refine WL.step ?_
  refine WL.assign rfl rfl ?_
  refine WL.nil ?_
  refine WQ.then_normal ?_
  refine WC.seq ?_
  refine WC.region ?_
  refine WL.step ?_
  refine WL.buildSlice F.sl54 F.ez54 rfl rfl rfl rfl (by repeat (first | exact Built.nil | apply Built.one rfl rfl (by repeat constructor) | apply Built.agg rfl rfl (by repeat constructor))) rfl (fun b44 => ?_)
  refine WL.step ?_
  refine WL.buildSlice F.sl54 F.ez54 rfl rfl rfl rfl (by repeat (first | exact Built.nil | apply Built.one rfl rfl (by repeat constructor) | apply Built.agg rfl rfl (by repeat constructor))) rfl (fun b45 => ?_)
  refine WL.step ?_
  refine WL.buildSlice F.sl38 F.ez38 rfl rfl rfl rfl (by repeat (first | exact Built.nil | apply Built.one rfl rfl (by repeat constructor) | apply Built.agg rfl rfl (by repeat constructor))) rfl (fun b46 => ?_)
  refine WL.step ?_
  refine WL.callC (β := Option Addr × Nat) (res := fun x => .tuple #[.agg #[.bool false, .int .u32 0, .slice x.1 1 x.2], .int .i64 0]) (cs := fun _ => []) (Cs := []) (O' := []) F.fun24 (fun d h => by cases h; rfl) rfl (List.Perm.refl _) (by simp) (by simp) (fun w hS _ => (Solve_c 1 [[1], [-1]] (some ⟨b46, 0, none⟩) 2 _ (.inr ⟨_, _, rfl⟩) w (RdLL.two (b1 := b44) (b2 := b45) (b3 := b46) (c1 := [1]) (c2 := [-1]) hS (by repeat (first | exact List.Mem.head _ | apply List.Mem.tail)) (by repeat (first | exact List.Mem.head _ | apply List.Mem.tail)) (by repeat (first | exact List.Mem.head _ | apply List.Mem.tail))) 20 ⟨false, 0, [[]]⟩ (by decide) (fun n hn _ => ?_)).mono (fun e w2 h => ?_)) (fun x47 => ?_)
  · have : n = 1 := by omega
    subst this
    exact sol2
  · rcases h with h | h
    · exact absurd may2 h.1
    · obtain ⟨_, x, F, vs, h1, h2⟩ := h
      exact ⟨x, h1, h2.sublist (List.nil_sublist _)⟩
  refine WL.step ?_
  refine WL.move rfl rfl ?_
  refine WL.step ?_
  refine WL.extract rfl rfl rfl ?_
  refine WL.step ?_
  refine WL.extract rfl rfl rfl ?_
  refine WL.step ?_
  refine WL.alloc F.zero43 rfl (fun b11 => ?_)
  refine WL.step ?_
  refine WL.storeN F.agg43 rfl rfl rfl (by simp [Value.oneCell']) (by repeat (first | exact Upd.here | apply Upd.there)) (by repeat constructor) ?_
  refine WL.step ?_
  refine WL.assign rfl rfl ?_
  refine WL.nil ?_
  refine WQ.then_normal ?_
  refine WC.seq ?_
  refine WC.region ?_
  refine WL.step ?_
  refine WL.move rfl rfl ?_
  refine WL.step ?_
  refine WL.eqI rfl rfl rfl ?_
  refine WL.step ?_
  refine WL.move rfl rfl ?_
  refine WA.splitB (i := 52) rfl (fun g52 => ?_) (fun g52 => ?_)
  · skip
    refine WL.step (WL.guardT rfl rfl rfl ?_)
    refine WL.move rfl rfl ?_
    refine WL.step (WL.guardT rfl rfl rfl ?_)
    refine WL.eqI rfl rfl rfl ?_
    refine WL.step ?_
    refine WL.pickT rfl rfl rfl ?_
    refine WL.step ?_
    refine WL.move rfl rfl ?_
    refine WA.splitB (i := 56) rfl (fun g56 => ?_) (fun g56 => ?_)
    · skip
      refine WL.step (WL.guardT rfl rfl rfl ?_)
      refine WL.fieldAddr0 F.fld25_0 rfl rfl ?_
      refine WL.step (WL.guardT rfl rfl rfl ?_)
      refine WL.loadP F.one5 rfl rfl (by repeat (first | exact List.Mem.head _ | apply List.Mem.tail)) rfl ?_
      refine WL.step (WL.guardT rfl rfl rfl ?_)
      refine WL.eqI rfl rfl rfl ?_
      refine WL.step ?_
      refine WL.pickT rfl rfl rfl ?_
      refine WL.step ?_
      refine WL.move rfl rfl ?_
      refine WA.splitB (i := 61) rfl (fun g61 => ?_) (fun g61 => ?_)
      · skip
        refine WL.step (WL.guardT rfl rfl rfl ?_)
        refine WL.fieldAddr0 F.fld25_2 rfl rfl ?_
        refine WL.step (WL.guardT rfl rfl rfl ?_)
        refine WL.loadP F.one23 rfl rfl (by repeat (first | exact List.Mem.head _ | apply List.Mem.tail)) rfl ?_
        refine WL.step (WL.guardT rfl rfl rfl ?_)
        refine WL.lenSl F.und23 rfl rfl ?_
        refine WL.step (WL.guardT rfl rfl rfl ?_)
        refine WL.eqI rfl rfl rfl ?_
        refine WL.step ?_
        refine WL.pickT rfl rfl rfl ?_
        refine WL.step ?_
        refine WL.move rfl rfl ?_
        refine WA.splitB (i := 67) rfl (fun g67 => ?_) (fun g67 => ?_)
        · skip
          refine WL.step (WL.guardT rfl rfl rfl ?_)
          refine WL.move rfl rfl ?_
          refine WL.step (WL.guardT rfl rfl rfl ?_)
          refine WL.eqI rfl rfl rfl ?_
          refine WL.step ?_
          refine WL.pickT rfl rfl rfl ?_
          refine WL.step ?_
          refine WL.move rfl rfl ?_
          refine WA.splitB (i := 71) rfl (fun g71 => ?_) (fun g71 => ?_)
          · skip
            refine WL.step (WL.guardT rfl rfl rfl ?_)
            refine WL.move rfl rfl ?_
            refine WL.step (WL.guardT rfl rfl rfl ?_)
            refine WL.eqS rfl rfl rfl ?_
            refine WL.step ?_
            refine WL.pickT rfl rfl rfl ?_
            refine WL.step ?_
            refine WL.move rfl rfl ?_
            refine WA.splitB (i := 75) rfl (fun g75 => ?_) (fun g75 => ?_)
            · skip
              refine WL.step (WL.guardT rfl rfl rfl ?_)
              refine WL.move rfl rfl ?_
              refine WL.step (WL.guardT rfl rfl rfl ?_)
              refine WL.eqI rfl rfl rfl ?_
              refine WL.step ?_
              refine WL.pickT rfl rfl rfl ?_
              refine WL.step ?_
              refine WL.move rfl rfl ?_
              refine WA.splitB (i := 79) rfl (fun g79 => ?_) (fun g79 => ?_)
              · skip
                refine WL.step (WL.guardT rfl rfl rfl ?_)
                refine WL.move rfl rfl ?_
                refine WL.step (WL.guardT rfl rfl rfl ?_)
                refine WL.eqI rfl rfl rfl ?_
                refine WL.step ?_
                refine WL.pickT rfl rfl rfl ?_
                refine WL.step ?_
                refine WL.move rfl rfl ?_
                refine WA.splitB (i := 83) rfl (fun g83 => ?_) (fun g83 => ?_)
                · skip
                  refine WL.step (WL.guardT rfl rfl rfl ?_)
                  refine WL.move rfl rfl ?_
                  refine WL.step (WL.guardT rfl rfl rfl ?_)
                  refine WL.eqI rfl rfl rfl ?_
                  refine WL.step ?_
                  refine WL.pickT rfl rfl rfl ?_
                  refine WL.step ?_
                  refine WL.move rfl rfl ?_
                  refine WA.splitB (i := 87) rfl (fun g87 => ?_) (fun g87 => ?_)
                  · skip
                    refine WL.step (WL.guardT rfl rfl rfl ?_)
                    refine WL.fieldAddr0 F.fld43_0 rfl rfl ?_
                    refine WL.step (WL.guardT rfl rfl rfl ?_)
                    refine WL.loadP F.one4 rfl rfl (by repeat (first | exact List.Mem.head _ | apply List.Mem.tail)) rfl ?_
                    refine WL.step ?_
                    refine WL.pickT rfl rfl rfl ?_
                    refine WL.step ?_
                    refine WL.move rfl rfl ?_
                    refine WA.splitB (i := 91) rfl (fun g91 => ?_) (fun g91 => ?_)
                    · skip
                      refine WL.step (WL.guardT rfl rfl rfl ?_)
                      refine WL.fieldAddr0 F.fld43_1 rfl rfl ?_
                      refine WL.step (WL.guardT rfl rfl rfl ?_)
                      refine WL.loadP F.one41 rfl rfl (by repeat (first | exact List.Mem.head _ | apply List.Mem.tail)) rfl ?_
                      refine WL.step (WL.guardT rfl rfl rfl ?_)
                      refine WL.eqI rfl rfl rfl ?_
                      refine WL.step ?_
                      refine WL.pickT rfl rfl rfl ?_
                      refine WL.step ?_
                      refine WL.move rfl rfl ?_
                      refine WA.splitB (i := 96) rfl (fun g96 => ?_) (fun g96 => ?_)
                      · skip
                        refine WL.step (WL.guardT rfl rfl rfl ?_)
                        refine WL.move rfl rfl ?_
                        refine WL.step (WL.guardT rfl rfl rfl ?_)
                        refine WL.eqI rfl rfl rfl ?_
                        refine WL.step ?_
                        refine WL.pickT rfl rfl rfl ?_
                        refine WL.step ?_
                        refine WL.move rfl rfl ?_
                        refine WA.splitB (i := 100) rfl (fun g100 => ?_) (fun g100 => ?_)
                        · skip
                          refine WL.step (WL.guardT rfl rfl rfl ?_)
                          refine WL.fieldAddr0 F.fld43_0 rfl rfl ?_
                          refine WL.step (WL.guardT rfl rfl rfl ?_)
                          refine WL.loadP F.one4 rfl rfl (by repeat (first | exact List.Mem.head _ | apply List.Mem.tail)) rfl ?_
                          refine WL.step (WL.guardT rfl rfl rfl ?_)
                          refine WL.not rfl rfl ?_
                          refine WL.step ?_
                          refine WL.pickT rfl rfl rfl ?_
                          refine WL.step ?_
                          refine WL.move rfl rfl ?_
                          refine WA.splitB (i := 105) rfl (fun g105 => ?_) (fun g105 => ?_)
                          · skip
                            refine WL.step (WL.guardT rfl rfl rfl ?_)
                            refine WL.fieldAddr0 F.fld43_2 rfl rfl ?_
                            refine WL.step (WL.guardT rfl rfl rfl ?_)
                            refine WL.loadP F.one38 rfl rfl (by repeat (first | exact List.Mem.head _ | apply List.Mem.tail)) rfl ?_
                            refine WL.step (WL.guardT rfl rfl rfl ?_)
                            refine WL.lenSl F.und38 rfl rfl ?_
                            refine WL.step (WL.guardT rfl rfl rfl ?_)
                            refine WL.gtI rfl rfl rfl ?_
                            refine WL.step ?_
                            refine WL.pickT rfl rfl rfl ?_
                            refine WL.step ?_
                            refine WL.assign rfl rfl ?_
                            refine WL.nil ?_
                            refine WQ.then_normal ?_
                            refine WC.ret ?_
                            exact WQ.ret (rs := [.tmp 0]) rfl (.tmp rfl .nil) (fun w hS => ⟨rfl, hS.sublist (List.nil_sublist _)⟩)
                          · skip
                            exact absurd g105 (by decide)
                        · skip
                          exact absurd g100 (by decide)
                      · skip
                        exact absurd g96 (by decide)
                    · skip
                      exact absurd g91 (by decide)
                  · skip
                    exact absurd g87 (by decide)
                · skip
                  exact absurd g83 (by decide)
              · skip
                exact absurd g79 (by decide)
            · skip
              exact absurd g75 (by decide)
          · skip
            exact absurd g71 (by decide)
        · skip
          exact absurd g67 (by decide)
      · skip
        exact absurd g61 (by decide)
    · skip
      exact absurd g56 (by decide)
  · skip
    exact absurd g52 (by decide)

end Go.Proofs.Ytbippghgkbapnaa

namespace Go.Proofs.Ytbippghgkbapnaa
open Go Go.Eng Go.Proofs
theorem refIsName_c (l : List UInt8) (w : World) : Pure Try.prog 82 [.string (str l)] w (.bool (Fm.isNameB l)) := by
  refine enter Try.func82 rfl Try.ntmps82 rfl (St.init _) ?_
  refine WC.seq ?_
  refine WC.region ?_
  refine WL.step ?_
  refine WL.assign rfl rfl ?_
  refine WL.nil ?_
  refine WQ.then_normal ?_
  refine WC.seq ?_
  refine WC.seq ?_
  refine WC.cutF [(21, .bool (nmBad l)), (0, .string (str l)), (2, .bool false)] (fun Q' hQ => ?_) ?_
  · skip
    refine WC.region ?_
    refine WL.step ?_
    refine WL.move rfl rfl ?_
    refine WL.step ?_
    refine WL.lenS F.und9 rfl rfl ?_
    refine WL.step ?_
    refine WL.ltI rfl rfl rfl ?_
    refine WL.step ?_
    refine WL.move rfl rfl ?_
    refine WA.splitB (i := 7) rfl (fun h7 => ?_) (fun h7 => ?_)
    · skip
      refine WL.step (WL.guardF rfl rfl rfl rfl rfl rfl ?_)
      refine WL.step (WL.guardF rfl rfl rfl rfl rfl rfl ?_)
      refine WL.step (WL.guardF rfl rfl rfl rfl rfl rfl ?_)
      refine WL.step ?_
      refine WL.pickT rfl rfl rfl ?_
      refine WL.step ?_
      refine WL.move rfl rfl ?_
      refine WL.step (WL.guardF rfl rfl rfl rfl rfl rfl ?_)
      refine WL.step (WL.guardF rfl rfl rfl rfl rfl rfl ?_)
      refine WL.step (WL.guardF rfl rfl rfl rfl rfl rfl ?_)
      refine WL.step (WL.guardF rfl rfl rfl rfl rfl rfl ?_)
      refine WL.step (WL.guardU rfl rfl rfl rfl rfl ?_)
      refine WL.step (WL.guardU rfl rfl rfl rfl rfl ?_)
      refine WL.step (WL.guardU rfl rfl rfl rfl rfl ?_)
      refine WL.step (WL.guardF rfl rfl rfl rfl rfl rfl ?_)
      refine WL.step ?_
      refine WL.pickT rfl rfl rfl ?_
      refine WL.nil ?_
      refine WQ.byCut hQ (subF_bool ?_ ⟨rfl, rfl, trivial⟩ rfl)
      first | exact nmBad_nil h7 | exact nmBad_long h12 | (rw [nmBad_digit hc0 h16]; simp at h12; simp; omega) | (rw [nmBad_nodigit hc0 h16]; simp at h12; simp; omega)
    · skip
      have hpos : 0 < l.length := by simp at h7; omega
      obtain ⟨c0, hc0⟩ : ∃ c, l[0]? = some c := ⟨l[0], by simp [hpos]⟩
      refine WL.step (WL.guardT rfl rfl rfl ?_)
      refine WL.move rfl rfl ?_
      refine WL.step (WL.guardT rfl rfl rfl ?_)
      refine WL.lenS F.und9 rfl rfl ?_
      refine WL.step (WL.guardT rfl rfl rfl ?_)
      refine WL.gtI rfl rfl rfl ?_
      refine WL.step ?_
      refine WL.pickF rfl rfl rfl ?_
      refine WL.step ?_
      refine WL.move rfl rfl ?_
      refine WA.splitB (i := 12) rfl (fun h12 => ?_) (fun h12 => ?_)
      · skip
        refine WL.step (WL.guardF rfl rfl rfl rfl rfl rfl ?_)
        refine WL.step (WL.guardF rfl rfl rfl rfl rfl rfl ?_)
        refine WL.step (WL.guardF rfl rfl rfl rfl rfl rfl ?_)
        refine WL.step (WL.guardF rfl rfl rfl rfl rfl rfl ?_)
        refine WL.step (WL.guardU rfl rfl rfl rfl rfl ?_)
        refine WL.step (WL.guardU rfl rfl rfl rfl rfl ?_)
        refine WL.step (WL.guardU rfl rfl rfl rfl rfl ?_)
        refine WL.step (WL.guardF rfl rfl rfl rfl rfl rfl ?_)
        refine WL.step ?_
        refine WL.pickT rfl rfl rfl ?_
        refine WL.nil ?_
        refine WQ.byCut hQ (subF_bool ?_ ⟨rfl, rfl, trivial⟩ rfl)
        first | exact nmBad_nil h7 | exact nmBad_long h12 | (rw [nmBad_digit hc0 h16]; simp at h12; simp; omega) | (rw [nmBad_nodigit hc0 h16]; simp at h12; simp; omega)
      · skip
        refine WL.step (WL.guardT rfl rfl rfl ?_)
        refine WL.move rfl rfl ?_
        refine WL.step (WL.guardT rfl rfl rfl ?_)
        refine WL.indexS (i := 0) F.und9 rfl rfl rfl hc0 ?_
        refine WL.step (WL.guardT rfl rfl rfl ?_)
        refine WL.geI rfl rfl rfl ?_
        refine WL.step (WL.guardT rfl rfl rfl ?_)
        refine WL.move rfl rfl ?_
        refine WA.splitB (i := 16) rfl (fun h16 => ?_) (fun h16 => ?_)
        · skip
          refine WL.step (WL.guardT rfl rfl rfl ?_)
          refine WL.move rfl rfl ?_
          refine WL.step (WL.guardT rfl rfl rfl ?_)
          refine WL.indexS (i := 0) F.und9 rfl rfl rfl hc0 ?_
          refine WL.step (WL.guardT rfl rfl rfl ?_)
          refine WL.leI rfl rfl rfl ?_
          refine WL.step (WL.guardT rfl rfl rfl ?_)
          refine WL.pickT rfl rfl rfl ?_
          refine WL.step ?_
          refine WL.pickF rfl rfl rfl ?_
          refine WL.nil ?_
          refine WQ.byCut hQ (subF_bool ?_ ⟨rfl, rfl, trivial⟩ rfl)
          first | exact nmBad_nil h7 | exact nmBad_long h12 | (rw [nmBad_digit hc0 h16]; simp at h12; simp; omega) | (rw [nmBad_nodigit hc0 h16]; simp at h12; simp; omega)
        · skip
          refine WL.step (WL.guardF rfl rfl rfl rfl rfl rfl ?_)
          refine WL.step (WL.guardF rfl rfl rfl rfl rfl rfl ?_)
          refine WL.step (WL.guardF rfl rfl rfl rfl rfl rfl ?_)
          refine WL.step (WL.guardT rfl rfl rfl ?_)
          refine WL.pickF rfl rfl rfl ?_
          refine WL.step ?_
          refine WL.pickF rfl rfl rfl ?_
          refine WL.nil ?_
          refine WQ.byCut hQ (subF_bool ?_ ⟨rfl, rfl, trivial⟩ rfl)
          first | exact nmBad_nil h7 | exact nmBad_long h12 | (rw [nmBad_digit hc0 h16]; simp at h12; simp; omega) | (rw [nmBad_nodigit hc0 h16]; simp at h12; simp; omega)
  refine WQ.then_normal ?_
  refine WC.cond rfl (fun h21 => ?_) (fun h21 => ?_)
  · skip
    refine WC.seq ?_
    refine WC.region ?_
    refine WL.step ?_
    refine WL.assign rfl rfl ?_
    refine WL.nil ?_
    refine WQ.then_normal ?_
    refine WC.ret ?_
    refine WQ.then_ret ?_
    exact WQ.ret (rs := [.tmp 2]) rfl (.tmp rfl .nil) (fun w hS => ⟨by simp [tup, nmBad_name, h21], hS⟩)
  · skip
    have hl : l.length ≤ 32 := nmBad_len h21
    refine WC.skip ?_
    refine WQ.then_normal ?_
    refine WC.seq ?_
    refine WC.seq ?_
    refine WC.region ?_
    refine WL.step ?_
    refine WL.assign rfl rfl ?_
    refine WL.nil ?_
    refine WQ.then_normal ?_
    refine WC.block ?_
    refine WC.loop (α := Nat) (fun k => k ≤ l.length ∧ (l.take k).all Fm.inWordB = true) (fun k => [(0, .string (str l)), (2, .bool false), (3, .int .i64 k)]) (fun _ => []) (fun k => l.length - k) (0) ?_ ?_ ?_ ?_
    · exact ⟨by omega, by simp⟩
    · exact ⟨rfl, rfl, rfl, trivial⟩
    · rfl
    rintro k ⟨hk, hal⟩
    refine WC.seq ?_
    refine WC.seq ?_
    refine WC.region ?_
    refine WL.step ?_
    refine WL.move rfl rfl ?_
    refine WL.step ?_
    refine WL.move rfl rfl ?_
    refine WL.step ?_
    refine WL.lenS F.und9 rfl rfl ?_
    refine WL.step ?_
    refine WL.ltI rfl rfl rfl ?_
    refine WL.nil ?_
    refine WQ.then_normal ?_
    refine WC.cond rfl (fun h25 => ?_) (fun h25 => ?_)
    · skip
      have hlt : k < l.length := by simpa using h25
      obtain ⟨c, hc⟩ : ∃ c, l[k]? = some c := ⟨l[k], by simp [hlt]⟩
      refine WC.skip ?_
      refine WQ.then_normal ?_
      refine WC.seq ?_
      refine WC.block ?_
      refine WC.seq ?_
      refine WC.region ?_
      refine WL.step ?_
      refine WL.move rfl rfl ?_
      refine WL.step ?_
      refine WL.move rfl rfl ?_
      refine WL.step ?_
      refine WL.indexS F.und9 rfl rfl rfl (by assumption) ?_
      refine WL.step ?_
      refine WL.callV F.fun89 rfl rfl (fun w _ => refInWord_c c w) ?_
      refine WL.step ?_
      refine WL.not rfl rfl ?_
      refine WL.nil ?_
      refine WQ.then_normal ?_
      refine WC.cond rfl (fun h31 => ?_) (fun h31 => ?_)
      · skip
        have hcw : Fm.inWordB c = false := by simpa using h31
        refine WC.seq ?_
        refine WC.region ?_
        refine WL.step ?_
        refine WL.assign rfl rfl ?_
        refine WL.nil ?_
        refine WQ.then_normal ?_
        refine WC.ret ?_
        refine WQ.block_ret ?_
        refine WQ.then_ret ?_
        refine WQ.then_ret ?_
        refine WQ.block_ret ?_
        refine WQ.then_ret ?_
        exact WQ.ret (rs := [.tmp 2]) rfl (.tmp rfl .nil) (fun w hS => ⟨by simp [tup, nmBad_name]; intro _; exact ⟨c, List.mem_of_getElem? hc, hcw⟩, hS⟩)
      · skip
        have hcw : Fm.inWordB c = true := by simpa using h31
        refine WC.skip ?_
        refine WQ.block_normal ?_
        refine WQ.then_normal ?_
        refine WC.region ?_
        refine WL.step ?_
        refine WL.move rfl rfl ?_
        refine WL.step ?_
        refine WL.add rfl rfl rfl ⟨by omega, by omega⟩ ?_
        refine WL.step ?_
        refine WL.assign rfl rfl ?_
        refine WL.nil ?_
        refine WQ.back (k + 1) ?_ ?_ ?_ ?_
        · exact ⟨by omega, by rw [take_all hc, hal, hcw]; rfl⟩
        · omega
        · exact ⟨rfl, rfl, rfl, trivial⟩
        · rfl
    · skip
      have hkl : k = l.length := by simp at h25; omega
      subst hkl
      rw [List.take_length] at hal
      refine WC.exit ?_
      refine WQ.then_exit ?_
      refine WQ.then_exit ?_
      refine WQ.block_exit ?_
      refine WQ.then_normal ?_
      refine WC.seq ?_
      refine WC.region ?_
      refine WL.step ?_
      refine WL.assign rfl rfl ?_
      refine WL.nil ?_
      refine WQ.then_normal ?_
      refine WC.ret ?_
      exact WQ.ret (rs := [.tmp 2]) rfl (.tmp rfl .nil) (fun w hS => ⟨by simp [tup, nmBad_name, h21, hal], hS⟩)

/-- Tokens in memory. -/
def RdTk (w : World) (T : List Fm.Tk) (a : Option Addr) : Prop := ∀ i t, T[i]? = some t → ∃ b off, a = some ⟨b, off, none⟩ ∧ w.cell? ⟨b, off + i * 2, none⟩ = some (.int .i64 (t.1 : Int)) ∧ w.cell? ⟨b, off + i * 2 + 1, none⟩ = some (.string (str t.2))
theorem RdTk.next {w0 w : World} {C : List Chunk} {T : List Fm.Tk} {a : Option Addr} (h : RdTk w0 T a) (hS : St w0 [] C w) : RdTk w T a := fun i t hx => by
  obtain ⟨b, off, ha, hc, hd⟩ := h i t hx
  exact ⟨b, off, ha, hS.oldc hc (by simp), hS.oldc hd (by simp)⟩
abbrev rdv (T : List Fm.Tk) (a : Option Addr) (c : Nat) (r : Fm.RS) : Value := .agg [.slice a T.length c, .int .i64 (r.1 : Int), .bool r.2].toArray
theorem rword_lt {T : List Fm.Tk} {r : Fm.RS} (h : Fm.rword T r ≠ []) : r.2 = false ∧ ∃ t, T[r.1]? = some t ∧ Fm.rword T r = t.2 := by
  by_cases hb : r.2 = true
  · exact absurd (by unfold Fm.rword; rw [if_pos hb]) h
  · have hb' : r.2 = false := by simpa using hb
    unfold Fm.rword at h ⊢
    rw [if_neg hb] at h ⊢
    cases ht : T[r.1]? with
    | none => rw [ht] at h; exact absurd rfl h
    | some t => exact ⟨hb', t, rfl, rfl⟩

theorem rword_c (T : List Fm.Tk) (a : Option Addr) (c : Nat) (r : Fm.RS) (w : World) (hr : RdTk w T a) : Pure Try.prog 107 [rdv T a c r] w (.string (str (Fm.rword T r))) := by
  obtain ⟨I, bd⟩ := r
  refine enter Try.func107 rfl Try.ntmps107 rfl (St.init _) ?_
  refine WC.seq ?_
  refine WC.region ?_
  refine WL.step ?_
  refine WL.boxN rfl rfl (fun b1 => ?_)
  refine WL.step ?_
  refine WL.assign rfl rfl ?_
  refine WL.nil ?_
  refine WQ.then_normal ?_
  refine WC.seq ?_
  refine WC.seq ?_
  refine WC.region ?_
  refine WL.step ?_
  refine WL.fieldAddr0 F.fld82_2 rfl rfl ?_
  refine WL.step ?_
  refine WL.loadP F.one4 rfl rfl (by repeat (first | exact List.Mem.head _ | apply List.Mem.tail)) rfl ?_
  refine WL.step ?_
  refine WL.move rfl rfl ?_
  refine WA.splitB (i := 5) rfl (fun h5 => ?_) (fun h5 => ?_)
  · skip
    have hbd : bd = true := h5
    subst hbd
    have hw : Fm.rword T (I, true) = [] := rfl
    refine WL.step (WL.guardF rfl rfl rfl rfl rfl rfl ?_)
    refine WL.step (WL.guardF rfl rfl rfl rfl rfl rfl ?_)
    refine WL.step (WL.guardF rfl rfl rfl rfl rfl rfl ?_)
    refine WL.step (WL.guardF rfl rfl rfl rfl rfl rfl ?_)
    refine WL.step (WL.guardF rfl rfl rfl rfl rfl rfl ?_)
    refine WL.step (WL.guardF rfl rfl rfl rfl rfl rfl ?_)
    refine WL.step ?_
    refine WL.pickT rfl rfl rfl ?_
    refine WL.nil ?_
    refine WQ.then_normal ?_
    refine WC.condT rfl ?_
    refine WC.seq ?_
    refine WC.region ?_
    refine WL.step ?_
    refine WL.assign rfl rfl ?_
    refine WL.nil ?_
    refine WQ.then_normal ?_
    refine WC.ret ?_
    refine WQ.then_ret ?_
    exact WQ.ret (rs := [.tmp 2]) rfl (.tmp rfl .nil) (fun w hS => ⟨by rw [hw]; rfl, hS.drop⟩)
  · skip
    have hbd : bd = false := h5
    subst hbd
    refine WL.step (WL.guardT rfl rfl rfl ?_)
    refine WL.fieldAddr0 F.fld82_1 rfl rfl ?_
    refine WL.step (WL.guardT rfl rfl rfl ?_)
    refine WL.loadP F.one3 rfl rfl (by repeat (first | exact List.Mem.head _ | apply List.Mem.tail)) rfl ?_
    refine WL.step (WL.guardT rfl rfl rfl ?_)
    refine WL.fieldAddr0 F.fld82_0 rfl rfl ?_
    refine WL.step (WL.guardT rfl rfl rfl ?_)
    refine WL.loadP F.one78 rfl rfl (by repeat (first | exact List.Mem.head _ | apply List.Mem.tail)) rfl ?_
    refine WL.step (WL.guardT rfl rfl rfl ?_)
    refine WL.lenSl F.und78 rfl rfl ?_
    refine WL.step (WL.guardT rfl rfl rfl ?_)
    refine WL.geI rfl rfl rfl ?_
    refine WL.step ?_
    refine WL.pickF rfl rfl rfl ?_
    refine WL.nil ?_
    refine WQ.then_normal ?_
    refine WC.cond rfl (fun h12 => ?_) (fun h12 => ?_)
    · skip
      have hw : Fm.rword T (I, false) = [] := Fm.rword_off (.inr (by simpa using h12))
      refine WC.seq ?_
      refine WC.region ?_
      refine WL.step ?_
      refine WL.assign rfl rfl ?_
      refine WL.nil ?_
      refine WQ.then_normal ?_
      refine WC.ret ?_
      refine WQ.then_ret ?_
      exact WQ.ret (rs := [.tmp 2]) rfl (.tmp rfl .nil) (fun w hS => ⟨by rw [hw]; rfl, hS.drop⟩)
    · skip
      have hlt : I < T.length := by simpa using h12
      obtain ⟨t, ht⟩ : ∃ t, T[I]? = some t := ⟨_, List.getElem?_eq_getElem hlt⟩
      obtain ⟨b, off, rfl, hcA, hcB⟩ := hr I t ht
      have hw : Fm.rword T (I, false) = t.2 := by simp [Fm.rword, ht]
      refine WC.skip ?_
      refine WQ.then_normal ?_
      refine WC.seq ?_
      refine WC.region ?_
      refine WL.step ?_
      refine WL.fieldAddr0 F.fld82_0 rfl rfl ?_
      refine WL.step ?_
      refine WL.loadP F.one78 rfl rfl (by repeat (first | exact List.Mem.head _ | apply List.Mem.tail)) rfl ?_
      refine WL.step ?_
      refine WL.fieldAddr0 F.fld82_1 rfl rfl ?_
      refine WL.step ?_
      refine WL.loadP F.one3 rfl rfl (by repeat (first | exact List.Mem.head _ | apply List.Mem.tail)) rfl ?_
      refine WL.step ?_
      refine WL.indexAddr F.sl78 rfl rfl rfl hlt ?_
      refine WL.step ?_
      refine WL.fieldAddr F.fld86_1 rfl rfl ?_
      refine WL.step ?_
      refine WL.load1 F.one9 rfl rfl (v := .string (str t.2)) (fun w hS => hS.oldc hcB (by simp)) ?_
      refine WL.step ?_
      refine WL.assign rfl rfl ?_
      refine WL.nil ?_
      refine WQ.then_normal ?_
      refine WC.ret ?_
      exact WQ.ret (rs := [.tmp 2]) rfl (.tmp rfl .nil) (fun w hS => ⟨by rw [hw]; rfl, hS.drop⟩)

theorem rbad_c (T : List Fm.Tk) (a : Option Addr) (c : Nat) (r : Fm.RS) (w : World) : Pure Try.prog 92 [rdv T a c r] w (rdv T a c (r.1, true)) := by
  refine enter Try.func92 rfl Try.ntmps92 rfl (St.init _) ?_
  refine WC.seq ?_
  refine WC.region ?_
  refine WL.step ?_
  refine WL.boxN rfl rfl (fun b1 => ?_)
  refine WL.step ?_
  refine WL.alloc F.zero82 rfl (fun b2 => ?_)
  refine WL.nil ?_
  refine WQ.then_normal ?_
  refine WC.seq ?_
  refine WC.region ?_
  refine WL.step ?_
  refine WL.fieldAddr0 F.fld82_2 rfl rfl ?_
  refine WL.step ?_
  refine WL.store1 F.one4 rfl rfl rfl (by repeat (first | exact Upd.here | apply Upd.there)) (by repeat constructor) ?_
  refine WL.nil ?_
  refine WQ.then_normal ?_
  refine WC.seq ?_
  refine WC.region ?_
  refine WL.step ?_
  refine WL.loadW F.agg82 rfl rfl (by repeat (first | exact List.Mem.head _ | apply List.Mem.tail)) rfl ?_
  refine WL.step ?_
  refine WL.storeN F.agg82 rfl rfl rfl (by simp [Value.oneCell']) (by repeat (first | exact Upd.here | apply Upd.there)) (by repeat constructor) ?_
  refine WL.nil ?_
  refine WQ.then_normal ?_
  refine WC.ret ?_
  exact WQ.ret (rs := [.cell 2 82]) rfl (.cellN F.agg82 rfl (by repeat (first | exact List.Mem.head _ | apply List.Mem.tail)) rfl .nil) (fun w hS => ⟨rfl, hS.drop.drop⟩)

theorem rskip_c (T : List Fm.Tk) (a : Option Addr) (c : Nat) (r : Fm.RS) (s : List UInt8) (hs : s ≠ []) (hT : T.length ≤ 1099511627776) (w : World) (hr : RdTk w T a) : Pure Try.prog 91 [rdv T a c r, .string (str s)] w (.tuple #[rdv T a c (Fm.rskip T r s).1, .bool (Fm.rskip T r s).2]) := by
  refine enter Try.func91 rfl Try.ntmps91 rfl (St.init _) ?_
  refine WC.seq ?_
  refine WC.region ?_
  refine WL.step ?_
  refine WL.boxN rfl rfl (fun b2 => ?_)
  refine WL.step ?_
  refine WL.alloc F.zero82 rfl (fun b4 => ?_)
  refine WL.step ?_
  refine WL.assign rfl rfl ?_
  refine WL.nil ?_
  refine WQ.then_normal ?_
  refine WC.seq ?_
  refine WC.seq ?_
  refine WC.region ?_
  refine WL.step ?_
  refine WL.loadW F.agg82 rfl rfl (by repeat (first | exact List.Mem.head _ | apply List.Mem.tail)) rfl ?_
  refine WL.step ?_
  refine WL.callV F.fun107 rfl rfl (fun w hS => rword_c T a c r w (hr.next hS)) ?_
  refine WL.step ?_
  refine WL.move rfl rfl ?_
  refine WL.step ?_
  refine WL.neS rfl rfl rfl ?_
  refine WL.nil ?_
  refine WQ.then_normal ?_
  refine WC.cond rfl (fun h9 => ?_) (fun h9 => ?_)
  · skip
    have hne : Fm.rword T r ≠ s := by simpa using h9
    have hsk : Fm.rskip T r s = (r, false) := by unfold Fm.rskip; rw [if_neg hne]
    refine WC.seq ?_
    refine WC.region ?_
    refine WL.step ?_
    refine WL.loadW F.agg82 rfl rfl (by repeat (first | exact List.Mem.head _ | apply List.Mem.tail)) rfl ?_
    refine WL.step ?_
    refine WL.storeN F.agg82 rfl rfl rfl (by simp [Value.oneCell']) (by repeat (first | exact Upd.here | apply Upd.there)) (by repeat constructor) ?_
    refine WL.step ?_
    refine WL.assign rfl rfl ?_
    refine WL.nil ?_
    refine WQ.then_normal ?_
    refine WC.ret ?_
    refine WQ.then_ret ?_
    exact WQ.ret (rs := [.cell 4 82, .tmp 5]) rfl (.cellN F.agg82 rfl (by repeat (first | exact List.Mem.head _ | apply List.Mem.tail)) rfl (.tmp rfl .nil)) (fun w hS => ⟨by rw [hsk]; rfl, hS.drop.drop⟩)
  · skip
    have he : Fm.rword T r = s := by simpa using h9
    have hsk : Fm.rskip T r s = ((r.1 + 1, r.2), true) := by unfold Fm.rskip; rw [if_pos he]
    obtain ⟨_, t, ht, _⟩ := rword_lt (T := T) (r := r) (by rw [he]; exact hs)
    have hlt := (List.getElem?_eq_some_iff.1 ht).1
    refine WC.skip ?_
    refine WQ.then_normal ?_
    refine WC.seq ?_
    refine WC.region ?_
    refine WL.step ?_
    refine WL.fieldAddr0 F.fld82_1 rfl rfl ?_
    refine WL.step ?_
    refine WL.loadP F.one3 rfl rfl (by repeat (first | exact List.Mem.head _ | apply List.Mem.tail)) rfl ?_
    refine WL.step ?_
    refine WL.add rfl rfl rfl ⟨by omega, by omega⟩ ?_
    refine WL.step ?_
    refine WL.fieldAddr0 F.fld82_1 rfl rfl ?_
    refine WL.step ?_
    refine WL.store1 F.one3 rfl rfl rfl (by repeat (first | exact Upd.here | apply Upd.there)) (by repeat constructor) ?_
    refine WL.nil ?_
    refine WQ.then_normal ?_
    refine WC.seq ?_
    refine WC.region ?_
    refine WL.step ?_
    refine WL.loadW F.agg82 rfl rfl (by repeat (first | exact List.Mem.head _ | apply List.Mem.tail)) rfl ?_
    refine WL.step ?_
    refine WL.storeN F.agg82 rfl rfl rfl (by simp [Value.oneCell']) (by repeat (first | exact Upd.here | apply Upd.there)) (by repeat constructor) ?_
    refine WL.step ?_
    refine WL.assign rfl rfl ?_
    refine WL.nil ?_
    refine WQ.then_normal ?_
    refine WC.ret ?_
    exact WQ.ret (rs := [.cell 4 82, .tmp 5]) rfl (.cellN F.agg82 rfl (by repeat (first | exact List.Mem.head _ | apply List.Mem.tail)) rfl (.tmp rfl .nil)) (fun w hS => ⟨by rw [hsk]; rfl, hS.drop.drop⟩)

end Go.Proofs.Ytbippghgkbapnaa

namespace Go.Proofs.Ytbippghgkbapnaa
open Go Go.Eng Go.Proofs
def RRpost (T : List Fm.Tk) (a : Option Addr) (c : Nat) (w : World) (q : Tree × Fm.RS) (e : Ending) (w' : World) : Prop :=
  ∃ y : List Nat × Option Addr × Nat, e = .returned (.tuple #[tv q.1 y.2.1 y.2.2, rdv T a c q.2]) ∧ St w [] [own y.1 q.1 (tv q.1 y.2.1 y.2.2)] w'
def RC (T : List Fm.Tk) (a : Option Addr) (c : Nat) (f : Nat) (args : List Value) (nt : Fm.RN) (n : Nat) : Prop := ∀ r q w, RdTk w T a → Fm.rp T n nt r = some q → Calls Try.prog f (rdv T a c r :: args).toArray w (RRpost T a c w q)

theorem rimplies_c (T : List Fm.Tk) (a : Option Addr) (c : Nat) (hT : T.length ≤ 1099511627776) (n : Nat) (hrow : RC T a c 106 [.int .i64 4] (.row 0) n) (hrec : RC T a c 90 [] .implies n) : RC T a c 90 [] .implies (n + 1) := by
  intro r q w hr hq
  rw [Fm.rp] at hq
  obtain ⟨⟨t1, r1⟩, h1, hq⟩ := Option.bind_eq_some_iff.1 hq
  dsimp only at hq
  refine enter Try.func90 rfl Try.ntmps90 rfl (St.init _) ?_
  refine WC.seq ?_
  refine WC.region ?_
  refine WL.step ?_
  refine WL.boxN rfl rfl (fun b1 => ?_)
  refine WL.step ?_
  refine WL.alloc F.zero25 rfl (fun b2 => ?_)
  refine WL.step ?_
  refine WL.alloc F.zero82 rfl (fun b3 => ?_)
  refine WL.nil ?_
  refine WQ.then_normal ?_
  refine WC.seq ?_
  refine WC.region ?_
  refine WL.step ?_
  refine WL.loadW F.agg82 rfl rfl (by repeat (first | exact List.Mem.head _ | apply List.Mem.tail)) rfl ?_
  refine WL.step ?_
  refine WL.callC (β := List Nat × Option Addr × Nat) (res := fun y => .tuple #[tv t1 y.2.1 y.2.2, rdv T a c r1]) (cs := fun y => [own y.1 t1 (tv t1 y.2.1 y.2.2)]) (Cs := []) (O' := []) F.fun106 (fun d h => by cases h; rfl) rfl (List.Perm.refl _) (by simp) (by simp) (fun w hS _ => hrow r (t1, r1) w (hr.next hS) h1) (fun y10 => ?_)
  refine WL.step ?_
  refine WL.move rfl rfl ?_
  refine WL.step ?_
  refine WL.extract rfl rfl rfl ?_
  refine WL.step ?_
  refine WL.extract rfl rfl rfl ?_
  refine WL.step ?_
  refine WL.alloc F.zero25 rfl (fun b4 => ?_)
  refine WL.step ?_
  refine WL.storeN F.agg25 rfl rfl rfl (by simp [Value.oneCell']) (by repeat (first | exact Upd.here | apply Upd.there)) (by repeat constructor) ?_
  refine WL.step ?_
  refine WL.storeN F.agg82 rfl rfl rfl (by simp [Value.oneCell']) (by repeat (first | exact Upd.here | apply Upd.there)) (by repeat constructor) ?_
  refine WL.nil ?_
  refine WQ.then_normal ?_
  refine WC.seq ?_
  rcases hs1 : Fm.rskip T r1 [61, 62] with ⟨s1, _ | _⟩
  · skip
    rw [hs1] at hq
    dsimp only at hq
    rw [if_neg (by decide)] at hq
    injection hq with hq
    subst hq
    refine WC.region ?_
    refine WL.step ?_
    refine WL.loadW F.agg82 rfl rfl (by repeat (first | exact List.Mem.head _ | apply List.Mem.tail)) rfl ?_
    refine WL.step ?_
    refine WL.callV (v := .tuple #[rdv T a c s1, .bool false]) F.fun91 rfl rfl (fun w hS => by have h9 := rskip_c T a c r1 [61, 62] (by first | simp | exact Fm.rowSign_ne _) hT w (hr.next hS); rw [hs1] at h9; exact h9) ?_
    refine WL.step ?_
    refine WL.move rfl rfl ?_
    refine WL.step ?_
    refine WL.extract rfl rfl rfl ?_
    refine WL.step ?_
    refine WL.extract rfl rfl rfl ?_
    refine WL.step ?_
    refine WL.alloc F.zero82 rfl (fun b5 => ?_)
    refine WL.step ?_
    refine WL.storeN F.agg82 rfl rfl rfl (by simp [Value.oneCell']) (by repeat (first | exact Upd.here | apply Upd.there)) (by repeat constructor) ?_
    refine WL.step ?_
    refine WL.assign rfl rfl ?_
    refine WL.nil ?_
    refine WQ.then_normal ?_
    refine WC.seq ?_
    refine WC.seq ?_
    refine WC.region ?_
    refine WL.step ?_
    refine WL.move rfl rfl ?_
    refine WL.step ?_
    refine WL.not rfl rfl ?_
    refine WL.nil ?_
    refine WQ.then_normal ?_
    refine WC.condT rfl ?_
    refine WC.seq ?_
    refine WC.drawsL (by kernel_rfl) (FactsOk.cons (ds := [2, 3]) (LoadOk.whole (t := 4) rfl (by repeat (first | exact List.Mem.head _ | apply List.Mem.tail))) (FactsOk.cons (ds := [3]) (LoadOk.whole (t := 1) rfl (by repeat (first | exact List.Mem.head _ | apply List.Mem.tail))) (FactsOk.nil))) ?_
    refine WD.take (i := 0) rfl rfl rfl rfl (by kernel_rfl) (by kernel_rfl) (by kernel_rfl) (fun _ _ _ h => h) (by kernel_rfl) (need_at 0 4 rfl (by kernel_rfl)) (Yl.loadN F.agg25 rfl rfl) ?_
    refine WD.take (i := 1) rfl rfl rfl rfl (by kernel_rfl) (by kernel_rfl) (by kernel_rfl) (fun _ _ _ h => h) (by kernel_rfl) (need_at 1 4 rfl (by kernel_rfl)) (Yl.loadN F.agg82 rfl rfl) ?_
    refine WD.one (i := 2) (by kernel_rfl) rfl ?_
    refine WL.storeN F.agg25 rfl rfl rfl (by simp [Value.oneCell']) (by repeat (first | exact Upd.here | apply Upd.there)) (by repeat constructor) ?_
    refine WD.on (closed_of (by kernel_rfl)) (fun w hS => Sx.gone rfl (Sx.keep ((fun j v hv => by rw [Nat.zero_add]; exact hS.cell (by repeat (first | exact List.Mem.head _ | apply List.Mem.tail)) hv)) (Sx.none))) ?_
    refine WD.one (i := 3) (by kernel_rfl) rfl ?_
    refine WL.storeN F.agg82 rfl rfl rfl (by simp [Value.oneCell']) (by repeat (first | exact Upd.here | apply Upd.there)) (by repeat constructor) ?_
    refine WD.on (closed_of (by kernel_rfl)) (fun w hS => Sx.gone rfl (Sx.gone rfl (Sx.none))) ?_
    refine WD.done (by kernel_rfl) ?_
    refine WQ.then_normal ?_
    refine WC.ret ?_
    refine WQ.then_ret ?_
    refine WQ.ret (rs := [.cell 2 25, .cell 3 82]) rfl (.cellN F.agg25 rfl (by repeat (first | exact List.Mem.head _ | apply List.Mem.tail)) rfl (.cellN F.agg82 rfl (by repeat (first | exact List.Mem.head _ | apply List.Mem.tail)) rfl .nil)) (fun w hS => ?_)
    exact ⟨y10, rfl, ((St.pick hS (c := own y10.1 t1 (tv t1 y10.2.1 y10.2.2)) (by repeat (first | exact Rem.here | apply Rem.there)))).one1⟩
  · skip
    rw [hs1] at hq
    dsimp only at hq
    rw [if_pos rfl] at hq
    obtain ⟨⟨t2, r2⟩, h2, hq⟩ := Option.bind_eq_some_iff.1 hq
    injection hq with hq
    subst hq
    refine WC.region ?_
    refine WL.step ?_
    refine WL.loadW F.agg82 rfl rfl (by repeat (first | exact List.Mem.head _ | apply List.Mem.tail)) rfl ?_
    refine WL.step ?_
    refine WL.callV (v := .tuple #[rdv T a c s1, .bool true]) F.fun91 rfl rfl (fun w hS => by have h9 := rskip_c T a c r1 [61, 62] (by first | simp | exact Fm.rowSign_ne _) hT w (hr.next hS); rw [hs1] at h9; exact h9) ?_
    refine WL.step ?_
    refine WL.move rfl rfl ?_
    refine WL.step ?_
    refine WL.extract rfl rfl rfl ?_
    refine WL.step ?_
    refine WL.extract rfl rfl rfl ?_
    refine WL.step ?_
    refine WL.alloc F.zero82 rfl (fun b5 => ?_)
    refine WL.step ?_
    refine WL.storeN F.agg82 rfl rfl rfl (by simp [Value.oneCell']) (by repeat (first | exact Upd.here | apply Upd.there)) (by repeat constructor) ?_
    refine WL.step ?_
    refine WL.assign rfl rfl ?_
    refine WL.nil ?_
    refine WQ.then_normal ?_
    refine WC.seq ?_
    refine WC.seq ?_
    refine WC.region ?_
    refine WL.step ?_
    refine WL.move rfl rfl ?_
    refine WL.step ?_
    refine WL.not rfl rfl ?_
    refine WL.nil ?_
    refine WQ.then_normal ?_
    refine WC.condF rfl ?_
    refine WC.skip ?_
    refine WQ.then_normal ?_
    refine WC.seq ?_
    refine WC.region ?_
    refine WL.step ?_
    refine WL.loadW F.agg82 rfl rfl (by repeat (first | exact List.Mem.head _ | apply List.Mem.tail)) rfl ?_
    refine WL.step ?_
    refine WL.callC (β := List Nat × Option Addr × Nat) (res := fun y => .tuple #[tv t2 y.2.1 y.2.2, rdv T a c r2]) (cs := fun y => [own y.1 t2 (tv t2 y.2.1 y.2.2)]) (Cs := []) (O' := []) F.fun90 (fun d h => by cases h; rfl) rfl (List.Perm.refl _) (by simp) (by simp) (fun w hS _ => hrec s1 (t2, r2) w (hr.next hS) h2) (fun y24 => ?_)
    refine WL.step ?_
    refine WL.move rfl rfl ?_
    refine WL.step ?_
    refine WL.extract rfl rfl rfl ?_
    refine WL.step ?_
    refine WL.extract rfl rfl rfl ?_
    refine WL.step ?_
    refine WL.alloc F.zero25 rfl (fun b7 => ?_)
    refine WL.step ?_
    refine WL.storeN F.agg25 rfl rfl rfl (by simp [Value.oneCell']) (by repeat (first | exact Upd.here | apply Upd.there)) (by repeat constructor) ?_
    refine WL.step ?_
    refine WL.storeN F.agg82 rfl rfl rfl (by simp [Value.oneCell']) (by repeat (first | exact Upd.here | apply Upd.there)) (by repeat constructor) ?_
    refine WL.nil ?_
    refine WQ.then_normal ?_
    refine WC.seq ?_
    refine WC.drawsL (by kernel_rfl) (FactsOk.cons (ds := [2, 5, 6]) (LoadOk.whole (t := 4) rfl (by repeat (first | exact List.Mem.head _ | apply List.Mem.tail))) (FactsOk.cons (ds := [2, 5, 6]) (LoadOk.whole (t := 7) rfl (by repeat (first | exact List.Mem.head _ | apply List.Mem.tail))) (FactsOk.cons (ds := [6]) (LoadOk.whole (t := 1) rfl (by repeat (first | exact List.Mem.head _ | apply List.Mem.tail))) (FactsOk.nil)))) ?_
    refine WD.take (i := 0) rfl rfl rfl rfl (by kernel_rfl) (by kernel_rfl) (by kernel_rfl) (fun _ _ _ h => h) (by kernel_rfl) (need_at 0 7 rfl (by kernel_rfl)) (Yl.loadN F.agg25 rfl rfl) ?_
    refine WD.take (i := 1) rfl rfl rfl rfl (by kernel_rfl) (by kernel_rfl) (by kernel_rfl) (fun _ _ _ h => h) (by kernel_rfl) (need_at 1 7 rfl (by kernel_rfl)) (Yl.loadN F.agg25 rfl rfl) ?_
    refine WD.take (i := 4) rfl rfl rfl rfl (by kernel_rfl) (by kernel_rfl) (by kernel_rfl) (fun _ _ _ h => h) (by kernel_rfl) (need_at 2 7 rfl (by kernel_rfl)) (Yl.loadN F.agg82 rfl rfl) ?_
    refine WD.one (i := 2) (by kernel_rfl) rfl ?_
    refine WL.buildSlice F.sl23 F.ez23 rfl rfl rfl rfl (by repeat (first | exact Built.nil | apply Built.one rfl rfl (by repeat constructor) | apply Built.agg rfl rfl (by repeat constructor))) rfl (fun b29 => ?_)
    refine WD.on (closed_of (by kernel_rfl)) (fun w hS => Sx.gone rfl (Sx.gone rfl (Sx.keep ((fun j v hv => by rw [Nat.zero_add]; exact hS.cell (by repeat (first | exact List.Mem.head _ | apply List.Mem.tail)) hv)) (Sx.none)))) ?_
    refine WD.take (i := 3) rfl rfl rfl rfl (by kernel_rfl) (by kernel_rfl) (by kernel_rfl) (fun _ _ _ h => h) (by kernel_rfl) need_none (Yl.build F.stT25 rfl (by repeat (first | exact Built.nil | apply Built.one rfl rfl (by repeat constructor) | apply Built.agg rfl rfl (by repeat constructor)))) ?_
    refine WD.one (i := 5) (by kernel_rfl) rfl ?_
    refine WL.storeN F.agg25 rfl rfl rfl (by simp [Value.oneCell']) (by repeat (first | exact Upd.here | apply Upd.there)) (by repeat constructor) ?_
    refine WD.on (closed_of (by kernel_rfl)) (fun w hS => Sx.gone rfl (Sx.gone rfl (Sx.keep ((fun j v hv => by rw [Nat.zero_add]; exact hS.cell (by repeat (first | exact List.Mem.head _ | apply List.Mem.tail)) hv)) (Sx.none)))) ?_
    refine WD.one (i := 6) (by kernel_rfl) rfl ?_
    refine WL.storeN F.agg82 rfl rfl rfl (by simp [Value.oneCell']) (by repeat (first | exact Upd.here | apply Upd.there)) (by repeat constructor) ?_
    refine WD.on (closed_of (by kernel_rfl)) (fun w hS => Sx.gone rfl (Sx.gone rfl (Sx.gone rfl (Sx.none)))) ?_
    refine WD.done (by kernel_rfl) ?_
    refine WQ.then_normal ?_
    refine WC.ret ?_
    refine WQ.ret (rs := [.cell 2 25, .cell 3 82]) rfl (.cellN F.agg25 rfl (by repeat (first | exact List.Mem.head _ | apply List.Mem.tail)) rfl (.cellN F.agg82 rfl (by repeat (first | exact List.Mem.head _ | apply List.Mem.tail)) rfl .nil)) (fun w hS => ?_)
    obtain ⟨F, h⟩ := St.node2 8 (St.pick (St.pick (St.pick hS (c := own y24.1 t2 (tv t2 y24.2.1 y24.2.2)) (by repeat (first | exact Rem.here | apply Rem.there))) (c := own y10.1 t1 (tv t1 y10.2.1 y10.2.2)) (by repeat (first | exact Rem.here | apply Rem.there))) (c := pt b29 [.int .u8 t1.op, .string (str t1.name), .slice y10.2.1 t1.kids.length y10.2.2, .int .u8 t2.op, .string (str t2.name), .slice y24.2.1 t2.kids.length y24.2.2] 25) (by repeat (first | exact Rem.here | apply Rem.there)))
    exact ⟨(F, _, _), rfl, h.one1⟩

theorem rchoice_c (T : List Fm.Tk) (a : Option Addr) (c : Nat) (hT : T.length ≤ 1099511627776) (n : Nat) (himp : RC T a c 90 [] .implies n) (hrec : RC T a c 49 [] .choice n) : RC T a c 49 [] .choice (n + 1) := by
  intro r q w hr hq
  rw [Fm.rp] at hq
  obtain ⟨⟨t1, r1⟩, h1, hq⟩ := Option.bind_eq_some_iff.1 hq
  dsimp only at hq
  refine enter Try.func49 rfl Try.ntmps49 rfl (St.init _) ?_
  refine WC.seq ?_
  refine WC.region ?_
  refine WL.step ?_
  refine WL.boxN rfl rfl (fun b1 => ?_)
  refine WL.step ?_
  refine WL.alloc F.zero25 rfl (fun b2 => ?_)
  refine WL.step ?_
  refine WL.alloc F.zero82 rfl (fun b3 => ?_)
  refine WL.nil ?_
  refine WQ.then_normal ?_
  refine WC.seq ?_
  refine WC.region ?_
  refine WL.step ?_
  refine WL.loadW F.agg82 rfl rfl (by repeat (first | exact List.Mem.head _ | apply List.Mem.tail)) rfl ?_
  refine WL.step ?_
  refine WL.callC (β := List Nat × Option Addr × Nat) (res := fun y => .tuple #[tv t1 y.2.1 y.2.2, rdv T a c r1]) (cs := fun y => [own y.1 t1 (tv t1 y.2.1 y.2.2)]) (Cs := []) (O' := []) F.fun90 (fun d h => by cases h; rfl) rfl (List.Perm.refl _) (by simp) (by simp) (fun w hS _ => himp r (t1, r1) w (hr.next hS) h1) (fun y13 => ?_)
  refine WL.step ?_
  refine WL.move rfl rfl ?_
  refine WL.step ?_
  refine WL.extract rfl rfl rfl ?_
  refine WL.step ?_
  refine WL.extract rfl rfl rfl ?_
  refine WL.step ?_
  refine WL.alloc F.zero25 rfl (fun b4 => ?_)
  refine WL.step ?_
  refine WL.storeN F.agg25 rfl rfl rfl (by simp [Value.oneCell']) (by repeat (first | exact Upd.here | apply Upd.there)) (by repeat constructor) ?_
  refine WL.step ?_
  refine WL.storeN F.agg82 rfl rfl rfl (by simp [Value.oneCell']) (by repeat (first | exact Upd.here | apply Upd.there)) (by repeat constructor) ?_
  refine WL.nil ?_
  refine WQ.then_normal ?_
  refine WC.seq ?_
  rcases hs1 : Fm.rskip T r1 [60, 61, 62] with ⟨s1, _ | _⟩
  · skip
    rw [hs1] at hq
    dsimp only at hq
    rw [if_neg (by decide), Option.bind_some] at hq
    dsimp only at hq
    refine WC.region ?_
    refine WL.step ?_
    refine WL.loadW F.agg82 rfl rfl (by repeat (first | exact List.Mem.head _ | apply List.Mem.tail)) rfl ?_
    refine WL.step ?_
    refine WL.callV (v := .tuple #[rdv T a c s1, .bool false]) F.fun91 rfl rfl (fun w hS => by have h9 := rskip_c T a c r1 [60, 61, 62] (by first | simp | exact Fm.rowSign_ne _) hT w (hr.next hS); rw [hs1] at h9; exact h9) ?_
    refine WL.step ?_
    refine WL.move rfl rfl ?_
    refine WL.step ?_
    refine WL.extract rfl rfl rfl ?_
    refine WL.step ?_
    refine WL.extract rfl rfl rfl ?_
    refine WL.step ?_
    refine WL.alloc F.zero82 rfl (fun b5 => ?_)
    refine WL.step ?_
    refine WL.storeN F.agg82 rfl rfl rfl (by simp [Value.oneCell']) (by repeat (first | exact Upd.here | apply Upd.there)) (by repeat constructor) ?_
    refine WL.step ?_
    refine WL.assign rfl rfl ?_
    refine WL.nil ?_
    refine WQ.then_normal ?_
    refine WC.seq ?_
    refine WC.seq ?_
    refine WC.region ?_
    refine WL.step ?_
    refine WL.move rfl rfl ?_
    refine WL.nil ?_
    refine WQ.then_normal ?_
    refine WC.condF rfl ?_
    refine WC.skip ?_
    refine WQ.then_normal ?_
    refine WC.seq ?_
    rcases hs2 : Fm.rskip T r1 [63] with ⟨s2, _ | _⟩
    · skip
      rw [hs2] at hq
      dsimp only at hq
      rw [if_neg (by decide)] at hq
      injection hq with hq
      subst hq
      refine WC.region ?_
      refine WL.step ?_
      refine WL.loadW F.agg82 rfl rfl (by repeat (first | exact List.Mem.head _ | apply List.Mem.tail)) rfl ?_
      refine WL.step ?_
      refine WL.callV (v := .tuple #[rdv T a c s2, .bool false]) F.fun91 rfl rfl (fun w hS => by have h9 := rskip_c T a c r1 [63] (by first | simp | exact Fm.rowSign_ne _) hT w (hr.next hS); rw [hs2] at h9; exact h9) ?_
      refine WL.step ?_
      refine WL.move rfl rfl ?_
      refine WL.step ?_
      refine WL.extract rfl rfl rfl ?_
      refine WL.step ?_
      refine WL.extract rfl rfl rfl ?_
      refine WL.step ?_
      refine WL.storeN F.agg82 rfl rfl rfl (by simp [Value.oneCell']) (by repeat (first | exact Upd.here | apply Upd.there)) (by repeat constructor) ?_
      refine WL.step ?_
      refine WL.assign rfl rfl ?_
      refine WL.nil ?_
      refine WQ.then_normal ?_
      refine WC.seq ?_
      refine WC.seq ?_
      refine WC.region ?_
      refine WL.step ?_
      refine WL.move rfl rfl ?_
      refine WL.step ?_
      refine WL.not rfl rfl ?_
      refine WL.nil ?_
      refine WQ.then_normal ?_
      refine WC.condT rfl ?_
      refine WC.seq ?_
      refine WC.drawsL (by kernel_rfl) (FactsOk.cons (ds := [2, 3]) (LoadOk.whole (t := 4) rfl (by repeat (first | exact List.Mem.head _ | apply List.Mem.tail))) (FactsOk.cons (ds := [3]) (LoadOk.whole (t := 1) rfl (by repeat (first | exact List.Mem.head _ | apply List.Mem.tail))) (FactsOk.nil))) ?_
      refine WD.take (i := 0) rfl rfl rfl rfl (by kernel_rfl) (by kernel_rfl) (by kernel_rfl) (fun _ _ _ h => h) (by kernel_rfl) (need_at 0 4 rfl (by kernel_rfl)) (Yl.loadN F.agg25 rfl rfl) ?_
      refine WD.take (i := 1) rfl rfl rfl rfl (by kernel_rfl) (by kernel_rfl) (by kernel_rfl) (fun _ _ _ h => h) (by kernel_rfl) (need_at 1 4 rfl (by kernel_rfl)) (Yl.loadN F.agg82 rfl rfl) ?_
      refine WD.one (i := 2) (by kernel_rfl) rfl ?_
      refine WL.storeN F.agg25 rfl rfl rfl (by simp [Value.oneCell']) (by repeat (first | exact Upd.here | apply Upd.there)) (by repeat constructor) ?_
      refine WD.on (closed_of (by kernel_rfl)) (fun w hS => Sx.gone rfl (Sx.keep ((fun j v hv => by rw [Nat.zero_add]; exact hS.cell (by repeat (first | exact List.Mem.head _ | apply List.Mem.tail)) hv)) (Sx.none))) ?_
      refine WD.one (i := 3) (by kernel_rfl) rfl ?_
      refine WL.storeN F.agg82 rfl rfl rfl (by simp [Value.oneCell']) (by repeat (first | exact Upd.here | apply Upd.there)) (by repeat constructor) ?_
      refine WD.on (closed_of (by kernel_rfl)) (fun w hS => Sx.gone rfl (Sx.gone rfl (Sx.none))) ?_
      refine WD.done (by kernel_rfl) ?_
      refine WQ.then_normal ?_
      refine WC.ret ?_
      refine WQ.then_ret ?_
      refine WQ.ret (rs := [.cell 2 25, .cell 3 82]) rfl (.cellN F.agg25 rfl (by repeat (first | exact List.Mem.head _ | apply List.Mem.tail)) rfl (.cellN F.agg82 rfl (by repeat (first | exact List.Mem.head _ | apply List.Mem.tail)) rfl .nil)) (fun w hS => ?_)
      exact ⟨y13, rfl, ((St.pick hS (c := own y13.1 t1 (tv t1 y13.2.1 y13.2.2)) (by repeat (first | exact Rem.here | apply Rem.there)))).one1⟩
    · skip
      rw [hs2] at hq
      dsimp only at hq
      rw [if_pos rfl] at hq
      obtain ⟨⟨t2, r2⟩, h2, hq⟩ := Option.bind_eq_some_iff.1 hq
      dsimp only at hq
      refine WC.region ?_
      refine WL.step ?_
      refine WL.loadW F.agg82 rfl rfl (by repeat (first | exact List.Mem.head _ | apply List.Mem.tail)) rfl ?_
      refine WL.step ?_
      refine WL.callV (v := .tuple #[rdv T a c s2, .bool true]) F.fun91 rfl rfl (fun w hS => by have h9 := rskip_c T a c r1 [63] (by first | simp | exact Fm.rowSign_ne _) hT w (hr.next hS); rw [hs2] at h9; exact h9) ?_
      refine WL.step ?_
      refine WL.move rfl rfl ?_
      refine WL.step ?_
      refine WL.extract rfl rfl rfl ?_
      refine WL.step ?_
      refine WL.extract rfl rfl rfl ?_
      refine WL.step ?_
      refine WL.storeN F.agg82 rfl rfl rfl (by simp [Value.oneCell']) (by repeat (first | exact Upd.here | apply Upd.there)) (by repeat constructor) ?_
      refine WL.step ?_
      refine WL.assign rfl rfl ?_
      refine WL.nil ?_
      refine WQ.then_normal ?_
      refine WC.seq ?_
      refine WC.seq ?_
      refine WC.region ?_
      refine WL.step ?_
      refine WL.move rfl rfl ?_
      refine WL.step ?_
      refine WL.not rfl rfl ?_
      refine WL.nil ?_
      refine WQ.then_normal ?_
      refine WC.condF rfl ?_
      refine WC.skip ?_
      refine WQ.then_normal ?_
      refine WC.seq ?_
      refine WC.region ?_
      refine WL.step ?_
      refine WL.loadW F.agg82 rfl rfl (by repeat (first | exact List.Mem.head _ | apply List.Mem.tail)) rfl ?_
      refine WL.step ?_
      refine WL.callC (β := List Nat × Option Addr × Nat) (res := fun y => .tuple #[tv t2 y.2.1 y.2.2, rdv T a c r2]) (cs := fun y => [own y.1 t2 (tv t2 y.2.1 y.2.2)]) (Cs := []) (O' := []) F.fun49 (fun d h => by cases h; rfl) rfl (List.Perm.refl _) (by simp) (by simp) (fun w hS _ => hrec s2 (t2, r2) w (hr.next hS) h2) (fun y43 => ?_)
      refine WL.step ?_
      refine WL.move rfl rfl ?_
      refine WL.step ?_
      refine WL.extract rfl rfl rfl ?_
      refine WL.step ?_
      refine WL.extract rfl rfl rfl ?_
      refine WL.step ?_
      refine WL.alloc F.zero25 rfl (fun b9 => ?_)
      refine WL.step ?_
      refine WL.storeN F.agg25 rfl rfl rfl (by simp [Value.oneCell']) (by repeat (first | exact Upd.here | apply Upd.there)) (by repeat constructor) ?_
      refine WL.step ?_
      refine WL.storeN F.agg82 rfl rfl rfl (by simp [Value.oneCell']) (by repeat (first | exact Upd.here | apply Upd.there)) (by repeat constructor) ?_
      refine WL.nil ?_
      refine WQ.then_normal ?_
      refine WC.seq ?_
      rcases hs3 : Fm.rskip T r2 [58] with ⟨s3, _ | _⟩
      · skip
        rw [hs3] at hq
        dsimp only at hq
        rw [if_neg (by decide)] at hq
        injection hq with hq
        subst hq
        refine WC.region ?_
        refine WL.step ?_
        refine WL.loadW F.agg82 rfl rfl (by repeat (first | exact List.Mem.head _ | apply List.Mem.tail)) rfl ?_
        refine WL.step ?_
        refine WL.callV (v := .tuple #[rdv T a c s3, .bool false]) F.fun91 rfl rfl (fun w hS => by have h9 := rskip_c T a c r2 [58] (by first | simp | exact Fm.rowSign_ne _) hT w (hr.next hS); rw [hs3] at h9; exact h9) ?_
        refine WL.step ?_
        refine WL.move rfl rfl ?_
        refine WL.step ?_
        refine WL.extract rfl rfl rfl ?_
        refine WL.step ?_
        refine WL.extract rfl rfl rfl ?_
        refine WL.step ?_
        refine WL.storeN F.agg82 rfl rfl rfl (by simp [Value.oneCell']) (by repeat (first | exact Upd.here | apply Upd.there)) (by repeat constructor) ?_
        refine WL.step ?_
        refine WL.assign rfl rfl ?_
        refine WL.nil ?_
        refine WQ.then_normal ?_
        refine WC.seq ?_
        refine WC.seq ?_
        refine WC.region ?_
        refine WL.step ?_
        refine WL.move rfl rfl ?_
        refine WL.step ?_
        refine WL.not rfl rfl ?_
        refine WL.nil ?_
        refine WQ.then_normal ?_
        refine WC.condT rfl ?_
        refine WC.seq ?_
        refine WC.drawsL (by kernel_rfl) (FactsOk.cons (ds := [3, 4]) (LoadOk.whole (t := 4) rfl (by repeat (first | exact List.Mem.head _ | apply List.Mem.tail))) (FactsOk.cons (ds := [2, 3, 4]) (LoadOk.whole (t := 1) rfl (by repeat (first | exact List.Mem.head _ | apply List.Mem.tail))) (FactsOk.nil))) ?_
        refine WD.take (i := 0) rfl rfl rfl rfl (by kernel_rfl) (by kernel_rfl) (by kernel_rfl) (fun _ _ _ h => h) (by kernel_rfl) (need_at 0 5 rfl (by kernel_rfl)) (Yl.loadN F.agg25 rfl rfl) ?_
        refine WD.take (i := 1) rfl rfl rfl rfl (by kernel_rfl) (by kernel_rfl) (by kernel_rfl) (fun _ _ _ h => h) (by kernel_rfl) (need_at 1 5 rfl (by kernel_rfl)) (Yl.loadN F.agg82 rfl rfl) ?_
        refine WD.one (i := 2) (by kernel_rfl) rfl ?_
        refine WL.callV F.fun92 rfl rfl (fun w _ => rbad_c T a c r2 w) ?_
        refine WD.on (closed_of (by kernel_rfl)) (fun w hS => Sx.keep ((fun j v hv => by rw [Nat.zero_add]; exact hS.cell (by repeat (first | exact List.Mem.head _ | apply List.Mem.tail)) hv)) (Sx.gone rfl (Sx.none))) ?_
        refine WD.one (i := 3) (by kernel_rfl) rfl ?_
        refine WL.storeN F.agg25 rfl rfl rfl (by simp [Value.oneCell']) (by repeat (first | exact Upd.here | apply Upd.there)) (by repeat constructor) ?_
        refine WD.on (closed_of (by kernel_rfl)) (fun w hS => Sx.gone rfl (Sx.gone rfl (Sx.none))) ?_
        refine WD.one (i := 4) (by kernel_rfl) rfl ?_
        refine WL.storeN F.agg82 rfl rfl rfl (by simp [Value.oneCell']) (by repeat (first | exact Upd.here | apply Upd.there)) (by repeat constructor) ?_
        refine WD.on (closed_of (by kernel_rfl)) (fun w hS => Sx.gone rfl (Sx.gone rfl (Sx.none))) ?_
        refine WD.done (by kernel_rfl) ?_
        refine WQ.then_normal ?_
        refine WC.ret ?_
        refine WQ.then_ret ?_
        refine WQ.ret (rs := [.cell 2 25, .cell 3 82]) rfl (.cellN F.agg25 rfl (by repeat (first | exact List.Mem.head _ | apply List.Mem.tail)) rfl (.cellN F.agg82 rfl (by repeat (first | exact List.Mem.head _ | apply List.Mem.tail)) rfl .nil)) (fun w hS => ?_)
        exact ⟨y13, rfl, ((St.pick hS (c := own y13.1 t1 (tv t1 y13.2.1 y13.2.2)) (by repeat (first | exact Rem.here | apply Rem.there)))).one1⟩
      · skip
        rw [hs3] at hq
        dsimp only at hq
        rw [if_pos rfl] at hq
        obtain ⟨⟨t3, r3⟩, h3, hq⟩ := Option.bind_eq_some_iff.1 hq
        injection hq with hq
        subst hq
        refine WC.region ?_
        refine WL.step ?_
        refine WL.loadW F.agg82 rfl rfl (by repeat (first | exact List.Mem.head _ | apply List.Mem.tail)) rfl ?_
        refine WL.step ?_
        refine WL.callV (v := .tuple #[rdv T a c s3, .bool true]) F.fun91 rfl rfl (fun w hS => by have h9 := rskip_c T a c r2 [58] (by first | simp | exact Fm.rowSign_ne _) hT w (hr.next hS); rw [hs3] at h9; exact h9) ?_
        refine WL.step ?_
        refine WL.move rfl rfl ?_
        refine WL.step ?_
        refine WL.extract rfl rfl rfl ?_
        refine WL.step ?_
        refine WL.extract rfl rfl rfl ?_
        refine WL.step ?_
        refine WL.storeN F.agg82 rfl rfl rfl (by simp [Value.oneCell']) (by repeat (first | exact Upd.here | apply Upd.there)) (by repeat constructor) ?_
        refine WL.step ?_
        refine WL.assign rfl rfl ?_
        refine WL.nil ?_
        refine WQ.then_normal ?_
        refine WC.seq ?_
        refine WC.seq ?_
        refine WC.region ?_
        refine WL.step ?_
        refine WL.move rfl rfl ?_
        refine WL.step ?_
        refine WL.not rfl rfl ?_
        refine WL.nil ?_
        refine WQ.then_normal ?_
        refine WC.condF rfl ?_
        refine WC.skip ?_
        refine WQ.then_normal ?_
        refine WC.seq ?_
        refine WC.region ?_
        refine WL.step ?_
        refine WL.loadW F.agg82 rfl rfl (by repeat (first | exact List.Mem.head _ | apply List.Mem.tail)) rfl ?_
        refine WL.step ?_
        refine WL.callC (β := List Nat × Option Addr × Nat) (res := fun y => .tuple #[tv t3 y.2.1 y.2.2, rdv T a c r3]) (cs := fun y => [own y.1 t3 (tv t3 y.2.1 y.2.2)]) (Cs := []) (O' := []) F.fun49 (fun d h => by cases h; rfl) rfl (List.Perm.refl _) (by simp) (by simp) (fun w hS _ => hrec s3 (t3, r3) w (hr.next hS) h3) (fun y58 => ?_)
        refine WL.step ?_
        refine WL.move rfl rfl ?_
        refine WL.step ?_
        refine WL.extract rfl rfl rfl ?_
        refine WL.step ?_
        refine WL.extract rfl rfl rfl ?_
        refine WL.step ?_
        refine WL.alloc F.zero25 rfl (fun b10 => ?_)
        refine WL.step ?_
        refine WL.storeN F.agg25 rfl rfl rfl (by simp [Value.oneCell']) (by repeat (first | exact Upd.here | apply Upd.there)) (by repeat constructor) ?_
        refine WL.step ?_
        refine WL.storeN F.agg82 rfl rfl rfl (by simp [Value.oneCell']) (by repeat (first | exact Upd.here | apply Upd.there)) (by repeat constructor) ?_
        refine WL.nil ?_
        refine WQ.then_normal ?_
        refine WC.seq ?_
        refine WC.drawsL (by kernel_rfl) (FactsOk.cons (ds := [3, 6, 7]) (LoadOk.whole (t := 4) rfl (by repeat (first | exact List.Mem.head _ | apply List.Mem.tail))) (FactsOk.cons (ds := [3, 6, 7]) (LoadOk.whole (t := 9) rfl (by repeat (first | exact List.Mem.head _ | apply List.Mem.tail))) (FactsOk.cons (ds := [3, 6, 7]) (LoadOk.whole (t := 10) rfl (by repeat (first | exact List.Mem.head _ | apply List.Mem.tail))) (FactsOk.cons (ds := [7]) (LoadOk.whole (t := 1) rfl (by repeat (first | exact List.Mem.head _ | apply List.Mem.tail))) (FactsOk.nil))))) ?_
        refine WD.take (i := 0) rfl rfl rfl rfl (by kernel_rfl) (by kernel_rfl) (by kernel_rfl) (fun _ _ _ h => h) (by kernel_rfl) (need_at 0 8 rfl (by kernel_rfl)) (Yl.loadN F.agg25 rfl rfl) ?_
        refine WD.take (i := 1) rfl rfl rfl rfl (by kernel_rfl) (by kernel_rfl) (by kernel_rfl) (fun _ _ _ h => h) (by kernel_rfl) (need_at 1 8 rfl (by kernel_rfl)) (Yl.loadN F.agg25 rfl rfl) ?_
        refine WD.take (i := 2) rfl rfl rfl rfl (by kernel_rfl) (by kernel_rfl) (by kernel_rfl) (fun _ _ _ h => h) (by kernel_rfl) (need_at 2 8 rfl (by kernel_rfl)) (Yl.loadN F.agg25 rfl rfl) ?_
        refine WD.take (i := 5) rfl rfl rfl rfl (by kernel_rfl) (by kernel_rfl) (by kernel_rfl) (fun _ _ _ h => h) (by kernel_rfl) (need_at 3 8 rfl (by kernel_rfl)) (Yl.loadN F.agg82 rfl rfl) ?_
        refine WD.one (i := 3) (by kernel_rfl) rfl ?_
        refine WL.buildSlice F.sl23 F.ez23 rfl rfl rfl rfl (by repeat (first | exact Built.nil | apply Built.one rfl rfl (by repeat constructor) | apply Built.agg rfl rfl (by repeat constructor))) rfl (fun b64 => ?_)
        refine WD.on (closed_of (by kernel_rfl)) (fun w hS => Sx.gone rfl (Sx.gone rfl (Sx.gone rfl (Sx.keep ((fun j v hv => by rw [Nat.zero_add]; exact hS.cell (by repeat (first | exact List.Mem.head _ | apply List.Mem.tail)) hv)) (Sx.none))))) ?_
        refine WD.take (i := 4) rfl rfl rfl rfl (by kernel_rfl) (by kernel_rfl) (by kernel_rfl) (fun _ _ _ h => h) (by kernel_rfl) need_none (Yl.build F.stT25 rfl (by repeat (first | exact Built.nil | apply Built.one rfl rfl (by repeat constructor) | apply Built.agg rfl rfl (by repeat constructor)))) ?_
        refine WD.one (i := 6) (by kernel_rfl) rfl ?_
        refine WL.storeN F.agg25 rfl rfl rfl (by simp [Value.oneCell']) (by repeat (first | exact Upd.here | apply Upd.there)) (by repeat constructor) ?_
        refine WD.on (closed_of (by kernel_rfl)) (fun w hS => Sx.gone rfl (Sx.gone rfl (Sx.gone rfl (Sx.keep ((fun j v hv => by rw [Nat.zero_add]; exact hS.cell (by repeat (first | exact List.Mem.head _ | apply List.Mem.tail)) hv)) (Sx.none))))) ?_
        refine WD.one (i := 7) (by kernel_rfl) rfl ?_
        refine WL.storeN F.agg82 rfl rfl rfl (by simp [Value.oneCell']) (by repeat (first | exact Upd.here | apply Upd.there)) (by repeat constructor) ?_
        refine WD.on (closed_of (by kernel_rfl)) (fun w hS => Sx.gone rfl (Sx.gone rfl (Sx.gone rfl (Sx.gone rfl (Sx.none))))) ?_
        refine WD.done (by kernel_rfl) ?_
        refine WQ.then_normal ?_
        refine WC.ret ?_
        refine WQ.ret (rs := [.cell 2 25, .cell 3 82]) rfl (.cellN F.agg25 rfl (by repeat (first | exact List.Mem.head _ | apply List.Mem.tail)) rfl (.cellN F.agg82 rfl (by repeat (first | exact List.Mem.head _ | apply List.Mem.tail)) rfl .nil)) (fun w hS => ?_)
        obtain ⟨F, h⟩ := St.node3 10 (t1 := t1) (St.pick (St.pick (St.pick (St.pick hS (c := own y58.1 t3 (tv t3 y58.2.1 y58.2.2)) (by repeat (first | exact Rem.here | apply Rem.there))) (c := own y43.1 t2 (tv t2 y43.2.1 y43.2.2)) (by repeat (first | exact Rem.here | apply Rem.there))) (c := own y13.1 (t1) (tv (t1) y13.2.1 y13.2.2)) (by repeat (first | exact Rem.here | apply Rem.there))) (c := pt b64 [.int .u8 (t1).op, .string (str (t1).name), .slice y13.2.1 (t1).kids.length y13.2.2, .int .u8 t2.op, .string (str t2.name), .slice y43.2.1 t2.kids.length y43.2.2, .int .u8 t3.op, .string (str t3.name), .slice y58.2.1 t3.kids.length y58.2.2] 25) (by repeat (first | exact Rem.here | apply Rem.there)))
        exact ⟨(F, _, _), rfl, h.one1⟩
  · skip
    rw [hs1] at hq
    dsimp only at hq
    rw [if_pos rfl] at hq
    rw [Option.bind_assoc] at hq
    obtain ⟨⟨t0, r0⟩, h0, hq⟩ := Option.bind_eq_some_iff.1 hq
    rw [Option.bind_some] at hq
    dsimp only at hq
    refine WC.region ?_
    refine WL.step ?_
    refine WL.loadW F.agg82 rfl rfl (by repeat (first | exact List.Mem.head _ | apply List.Mem.tail)) rfl ?_
    refine WL.step ?_
    refine WL.callV (v := .tuple #[rdv T a c s1, .bool true]) F.fun91 rfl rfl (fun w hS => by have h9 := rskip_c T a c r1 [60, 61, 62] (by first | simp | exact Fm.rowSign_ne _) hT w (hr.next hS); rw [hs1] at h9; exact h9) ?_
    refine WL.step ?_
    refine WL.move rfl rfl ?_
    refine WL.step ?_
    refine WL.extract rfl rfl rfl ?_
    refine WL.step ?_
    refine WL.extract rfl rfl rfl ?_
    refine WL.step ?_
    refine WL.alloc F.zero82 rfl (fun b5 => ?_)
    refine WL.step ?_
    refine WL.storeN F.agg82 rfl rfl rfl (by simp [Value.oneCell']) (by repeat (first | exact Upd.here | apply Upd.there)) (by repeat constructor) ?_
    refine WL.step ?_
    refine WL.assign rfl rfl ?_
    refine WL.nil ?_
    refine WQ.then_normal ?_
    refine WC.seq ?_
    refine WC.seq ?_
    refine WC.region ?_
    refine WL.step ?_
    refine WL.move rfl rfl ?_
    refine WL.nil ?_
    refine WQ.then_normal ?_
    refine WC.condT rfl ?_
    refine WC.seq ?_
    refine WC.region ?_
    refine WL.step ?_
    refine WL.loadW F.agg82 rfl rfl (by repeat (first | exact List.Mem.head _ | apply List.Mem.tail)) rfl ?_
    refine WL.step ?_
    refine WL.callC (β := List Nat × Option Addr × Nat) (res := fun y => .tuple #[tv t0 y.2.1 y.2.2, rdv T a c r0]) (cs := fun y => [own y.1 t0 (tv t0 y.2.1 y.2.2)]) (Cs := []) (O' := []) F.fun90 (fun d h => by cases h; rfl) rfl (List.Perm.refl _) (by simp) (by simp) (fun w hS _ => himp s1 (t0, r0) w (hr.next hS) h0) (fun y24 => ?_)
    refine WL.step ?_
    refine WL.move rfl rfl ?_
    refine WL.step ?_
    refine WL.extract rfl rfl rfl ?_
    refine WL.step ?_
    refine WL.extract rfl rfl rfl ?_
    refine WL.step ?_
    refine WL.alloc F.zero25 rfl (fun b7 => ?_)
    refine WL.step ?_
    refine WL.alloc F.zero82 rfl (fun b8 => ?_)
    refine WL.step ?_
    refine WL.storeN F.agg25 rfl rfl rfl (by simp [Value.oneCell']) (by repeat (first | exact Upd.here | apply Upd.there)) (by repeat constructor) ?_
    refine WL.step ?_
    refine WL.storeN F.agg82 rfl rfl rfl (by simp [Value.oneCell']) (by repeat (first | exact Upd.here | apply Upd.there)) (by repeat constructor) ?_
    refine WL.nil ?_
    refine WQ.then_normal ?_
    refine WC.drawsL (by kernel_rfl) (FactsOk.cons (ds := [2, 5, 6]) (LoadOk.whole (t := 4) rfl (by repeat (first | exact List.Mem.head _ | apply List.Mem.tail))) (FactsOk.cons (ds := [2, 5, 6]) (LoadOk.whole (t := 7) rfl (by repeat (first | exact List.Mem.head _ | apply List.Mem.tail))) (FactsOk.cons (ds := [6]) (LoadOk.whole (t := 8) rfl (by repeat (first | exact List.Mem.head _ | apply List.Mem.tail))) (FactsOk.nil)))) ?_
    refine WD.take (i := 0) rfl rfl rfl rfl (by kernel_rfl) (by kernel_rfl) (by kernel_rfl) (fun _ _ _ h => h) (by kernel_rfl) (need_at 0 7 rfl (by kernel_rfl)) (Yl.loadN F.agg25 rfl rfl) ?_
    refine WD.take (i := 1) rfl rfl rfl rfl (by kernel_rfl) (by kernel_rfl) (by kernel_rfl) (fun _ _ _ h => h) (by kernel_rfl) (need_at 1 7 rfl (by kernel_rfl)) (Yl.loadN F.agg25 rfl rfl) ?_
    refine WD.take (i := 4) rfl rfl rfl rfl (by kernel_rfl) (by kernel_rfl) (by kernel_rfl) (fun _ _ _ h => h) (by kernel_rfl) (need_at 2 7 rfl (by kernel_rfl)) (Yl.loadN F.agg82 rfl rfl) ?_
    refine WD.one (i := 2) (by kernel_rfl) rfl ?_
    refine WL.buildSlice F.sl23 F.ez23 rfl rfl rfl rfl (by repeat (first | exact Built.nil | apply Built.one rfl rfl (by repeat constructor) | apply Built.agg rfl rfl (by repeat constructor))) rfl (fun b29 => ?_)
    refine WD.on (closed_of (by kernel_rfl)) (fun w hS => Sx.gone rfl (Sx.gone rfl (Sx.keep ((fun j v hv => by rw [Nat.zero_add]; exact hS.cell (by repeat (first | exact List.Mem.head _ | apply List.Mem.tail)) hv)) (Sx.none)))) ?_
    refine WD.take (i := 3) rfl rfl rfl rfl (by kernel_rfl) (by kernel_rfl) (by kernel_rfl) (fun _ _ _ h => h) (by kernel_rfl) need_none (Yl.build F.stT25 rfl (by repeat (first | exact Built.nil | apply Built.one rfl rfl (by repeat constructor) | apply Built.agg rfl rfl (by repeat constructor)))) ?_
    refine WD.one (i := 5) (by kernel_rfl) rfl ?_
    refine WL.storeN F.agg25 rfl rfl rfl (by simp [Value.oneCell']) (by repeat (first | exact Upd.here | apply Upd.there)) (by repeat constructor) ?_
    refine WD.on (closed_of (by kernel_rfl)) (fun w hS => Sx.gone rfl (Sx.gone rfl (Sx.keep ((fun j v hv => by rw [Nat.zero_add]; exact hS.cell (by repeat (first | exact List.Mem.head _ | apply List.Mem.tail)) hv)) (Sx.none)))) ?_
    refine WD.one (i := 6) (by kernel_rfl) rfl ?_
    refine WL.storeN F.agg82 rfl rfl rfl (by simp [Value.oneCell']) (by repeat (first | exact Upd.here | apply Upd.there)) (by repeat constructor) ?_
    refine WD.on (closed_of (by kernel_rfl)) (fun w hS => Sx.gone rfl (Sx.gone rfl (Sx.gone rfl (Sx.none)))) ?_
    refine WD.done (by kernel_rfl) ?_
    refine WQ.then_normal ?_
    refine WC.seq ?_
    refine WC.chunksE (C' := fun F => own F (Tree.mk 9 [] [t1, t0]) (tv (Tree.mk 9 [] [t1, t0]) (some ⟨b29, 0, none⟩) 2) :: _) (fun w hS => St.node2 9 (St.pick (St.pick (St.pick hS (c := own y24.1 t0 (tv t0 y24.2.1 y24.2.2)) (by repeat (first | exact Rem.here | apply Rem.there))) (c := own y13.1 t1 (tv t1 y13.2.1 y13.2.2)) (by repeat (first | exact Rem.here | apply Rem.there))) (c := pt b29 [.int .u8 t1.op, .string (str t1.name), .slice y13.2.1 t1.kids.length y13.2.2, .int .u8 t0.op, .string (str t0.name), .slice y24.2.1 t0.kids.length y24.2.2] 25) (by repeat (first | exact Rem.here | apply Rem.there)))) (fun Fs => ?_)
    · skip
      rcases hs2 : Fm.rskip T r0 [63] with ⟨s2, _ | _⟩
      · skip
        rw [hs2] at hq
        dsimp only at hq
        rw [if_neg (by decide)] at hq
        injection hq with hq
        subst hq
        refine WC.region ?_
        refine WL.step ?_
        refine WL.loadW F.agg82 rfl rfl (by repeat (first | exact List.Mem.head _ | apply List.Mem.tail)) rfl ?_
        refine WL.step ?_
        refine WL.callV (v := .tuple #[rdv T a c s2, .bool false]) F.fun91 rfl rfl (fun w hS => by have h9 := rskip_c T a c r0 [63] (by first | simp | exact Fm.rowSign_ne _) hT w (hr.next hS); rw [hs2] at h9; exact h9) ?_
        refine WL.step ?_
        refine WL.move rfl rfl ?_
        refine WL.step ?_
        refine WL.extract rfl rfl rfl ?_
        refine WL.step ?_
        refine WL.extract rfl rfl rfl ?_
        refine WL.step ?_
        refine WL.storeN F.agg82 rfl rfl rfl (by simp [Value.oneCell']) (by repeat (first | exact Upd.here | apply Upd.there)) (by repeat constructor) ?_
        refine WL.step ?_
        refine WL.assign rfl rfl ?_
        refine WL.nil ?_
        refine WQ.then_normal ?_
        refine WC.seq ?_
        refine WC.seq ?_
        refine WC.region ?_
        refine WL.step ?_
        refine WL.move rfl rfl ?_
        refine WL.step ?_
        refine WL.not rfl rfl ?_
        refine WL.nil ?_
        refine WQ.then_normal ?_
        refine WC.condT rfl ?_
        refine WC.seq ?_
        refine WC.drawsL (by kernel_rfl) (FactsOk.cons (ds := [2, 3]) (LoadOk.whole (t := 4) rfl (by repeat (first | exact List.Mem.head _ | apply List.Mem.tail))) (FactsOk.cons (ds := [3]) (LoadOk.whole (t := 1) rfl (by repeat (first | exact List.Mem.head _ | apply List.Mem.tail))) (FactsOk.nil))) ?_
        refine WD.take (i := 0) rfl rfl rfl rfl (by kernel_rfl) (by kernel_rfl) (by kernel_rfl) (fun _ _ _ h => h) (by kernel_rfl) (need_at 0 4 rfl (by kernel_rfl)) (Yl.loadN F.agg25 rfl rfl) ?_
        refine WD.take (i := 1) rfl rfl rfl rfl (by kernel_rfl) (by kernel_rfl) (by kernel_rfl) (fun _ _ _ h => h) (by kernel_rfl) (need_at 1 4 rfl (by kernel_rfl)) (Yl.loadN F.agg82 rfl rfl) ?_
        refine WD.one (i := 2) (by kernel_rfl) rfl ?_
        refine WL.storeN F.agg25 rfl rfl rfl (by simp [Value.oneCell']) (by repeat (first | exact Upd.here | apply Upd.there)) (by repeat constructor) ?_
        refine WD.on (closed_of (by kernel_rfl)) (fun w hS => Sx.gone rfl (Sx.keep ((fun j v hv => by rw [Nat.zero_add]; exact hS.cell (by repeat (first | exact List.Mem.head _ | apply List.Mem.tail)) hv)) (Sx.none))) ?_
        refine WD.one (i := 3) (by kernel_rfl) rfl ?_
        refine WL.storeN F.agg82 rfl rfl rfl (by simp [Value.oneCell']) (by repeat (first | exact Upd.here | apply Upd.there)) (by repeat constructor) ?_
        refine WD.on (closed_of (by kernel_rfl)) (fun w hS => Sx.gone rfl (Sx.gone rfl (Sx.none))) ?_
        refine WD.done (by kernel_rfl) ?_
        refine WQ.then_normal ?_
        refine WC.ret ?_
        refine WQ.then_ret ?_
        refine WQ.ret (rs := [.cell 2 25, .cell 3 82]) rfl (.cellN F.agg25 rfl (by repeat (first | exact List.Mem.head _ | apply List.Mem.tail)) rfl (.cellN F.agg82 rfl (by repeat (first | exact List.Mem.head _ | apply List.Mem.tail)) rfl .nil)) (fun w hS => ?_)
        exact ⟨(Fs, _, _), rfl, (St.pick hS (c := own Fs _ _) (by repeat (first | exact Rem.here | apply Rem.there))).one1⟩
      · skip
        rw [hs2] at hq
        dsimp only at hq
        rw [if_pos rfl] at hq
        obtain ⟨⟨t2, r2⟩, h2, hq⟩ := Option.bind_eq_some_iff.1 hq
        dsimp only at hq
        refine WC.region ?_
        refine WL.step ?_
        refine WL.loadW F.agg82 rfl rfl (by repeat (first | exact List.Mem.head _ | apply List.Mem.tail)) rfl ?_
        refine WL.step ?_
        refine WL.callV (v := .tuple #[rdv T a c s2, .bool true]) F.fun91 rfl rfl (fun w hS => by have h9 := rskip_c T a c r0 [63] (by first | simp | exact Fm.rowSign_ne _) hT w (hr.next hS); rw [hs2] at h9; exact h9) ?_
        refine WL.step ?_
        refine WL.move rfl rfl ?_
        refine WL.step ?_
        refine WL.extract rfl rfl rfl ?_
        refine WL.step ?_
        refine WL.extract rfl rfl rfl ?_
        refine WL.step ?_
        refine WL.storeN F.agg82 rfl rfl rfl (by simp [Value.oneCell']) (by repeat (first | exact Upd.here | apply Upd.there)) (by repeat constructor) ?_
        refine WL.step ?_
        refine WL.assign rfl rfl ?_
        refine WL.nil ?_
        refine WQ.then_normal ?_
        refine WC.seq ?_
        refine WC.seq ?_
        refine WC.region ?_
        refine WL.step ?_
        refine WL.move rfl rfl ?_
        refine WL.step ?_
        refine WL.not rfl rfl ?_
        refine WL.nil ?_
        refine WQ.then_normal ?_
        refine WC.condF rfl ?_
        refine WC.skip ?_
        refine WQ.then_normal ?_
        refine WC.seq ?_
        refine WC.region ?_
        refine WL.step ?_
        refine WL.loadW F.agg82 rfl rfl (by repeat (first | exact List.Mem.head _ | apply List.Mem.tail)) rfl ?_
        refine WL.step ?_
        refine WL.callC (β := List Nat × Option Addr × Nat) (res := fun y => .tuple #[tv t2 y.2.1 y.2.2, rdv T a c r2]) (cs := fun y => [own y.1 t2 (tv t2 y.2.1 y.2.2)]) (Cs := []) (O' := []) F.fun49 (fun d h => by cases h; rfl) rfl (List.Perm.refl _) (by simp) (by simp) (fun w hS _ => hrec s2 (t2, r2) w (hr.next hS) h2) (fun y43 => ?_)
        refine WL.step ?_
        refine WL.move rfl rfl ?_
        refine WL.step ?_
        refine WL.extract rfl rfl rfl ?_
        refine WL.step ?_
        refine WL.extract rfl rfl rfl ?_
        refine WL.step ?_
        refine WL.alloc F.zero25 rfl (fun b9 => ?_)
        refine WL.step ?_
        refine WL.storeN F.agg25 rfl rfl rfl (by simp [Value.oneCell']) (by repeat (first | exact Upd.here | apply Upd.there)) (by repeat constructor) ?_
        refine WL.step ?_
        refine WL.storeN F.agg82 rfl rfl rfl (by simp [Value.oneCell']) (by repeat (first | exact Upd.here | apply Upd.there)) (by repeat constructor) ?_
        refine WL.nil ?_
        refine WQ.then_normal ?_
        refine WC.seq ?_
        rcases hs3 : Fm.rskip T r2 [58] with ⟨s3, _ | _⟩
        · skip
          rw [hs3] at hq
          dsimp only at hq
          rw [if_neg (by decide)] at hq
          injection hq with hq
          subst hq
          refine WC.region ?_
          refine WL.step ?_
          refine WL.loadW F.agg82 rfl rfl (by repeat (first | exact List.Mem.head _ | apply List.Mem.tail)) rfl ?_
          refine WL.step ?_
          refine WL.callV (v := .tuple #[rdv T a c s3, .bool false]) F.fun91 rfl rfl (fun w hS => by have h9 := rskip_c T a c r2 [58] (by first | simp | exact Fm.rowSign_ne _) hT w (hr.next hS); rw [hs3] at h9; exact h9) ?_
          refine WL.step ?_
          refine WL.move rfl rfl ?_
          refine WL.step ?_
          refine WL.extract rfl rfl rfl ?_
          refine WL.step ?_
          refine WL.extract rfl rfl rfl ?_
          refine WL.step ?_
          refine WL.storeN F.agg82 rfl rfl rfl (by simp [Value.oneCell']) (by repeat (first | exact Upd.here | apply Upd.there)) (by repeat constructor) ?_
          refine WL.step ?_
          refine WL.assign rfl rfl ?_
          refine WL.nil ?_
          refine WQ.then_normal ?_
          refine WC.seq ?_
          refine WC.seq ?_
          refine WC.region ?_
          refine WL.step ?_
          refine WL.move rfl rfl ?_
          refine WL.step ?_
          refine WL.not rfl rfl ?_
          refine WL.nil ?_
          refine WQ.then_normal ?_
          refine WC.condT rfl ?_
          refine WC.seq ?_
          refine WC.drawsL (by kernel_rfl) (FactsOk.cons (ds := [3, 4]) (LoadOk.whole (t := 4) rfl (by repeat (first | exact List.Mem.head _ | apply List.Mem.tail))) (FactsOk.cons (ds := [2, 3, 4]) (LoadOk.whole (t := 1) rfl (by repeat (first | exact List.Mem.head _ | apply List.Mem.tail))) (FactsOk.nil))) ?_
          refine WD.take (i := 0) rfl rfl rfl rfl (by kernel_rfl) (by kernel_rfl) (by kernel_rfl) (fun _ _ _ h => h) (by kernel_rfl) (need_at 0 5 rfl (by kernel_rfl)) (Yl.loadN F.agg25 rfl rfl) ?_
          refine WD.take (i := 1) rfl rfl rfl rfl (by kernel_rfl) (by kernel_rfl) (by kernel_rfl) (fun _ _ _ h => h) (by kernel_rfl) (need_at 1 5 rfl (by kernel_rfl)) (Yl.loadN F.agg82 rfl rfl) ?_
          refine WD.one (i := 2) (by kernel_rfl) rfl ?_
          refine WL.callV F.fun92 rfl rfl (fun w _ => rbad_c T a c r2 w) ?_
          refine WD.on (closed_of (by kernel_rfl)) (fun w hS => Sx.keep ((fun j v hv => by rw [Nat.zero_add]; exact hS.cell (by repeat (first | exact List.Mem.head _ | apply List.Mem.tail)) hv)) (Sx.gone rfl (Sx.none))) ?_
          refine WD.one (i := 3) (by kernel_rfl) rfl ?_
          refine WL.storeN F.agg25 rfl rfl rfl (by simp [Value.oneCell']) (by repeat (first | exact Upd.here | apply Upd.there)) (by repeat constructor) ?_
          refine WD.on (closed_of (by kernel_rfl)) (fun w hS => Sx.gone rfl (Sx.gone rfl (Sx.none))) ?_
          refine WD.one (i := 4) (by kernel_rfl) rfl ?_
          refine WL.storeN F.agg82 rfl rfl rfl (by simp [Value.oneCell']) (by repeat (first | exact Upd.here | apply Upd.there)) (by repeat constructor) ?_
          refine WD.on (closed_of (by kernel_rfl)) (fun w hS => Sx.gone rfl (Sx.gone rfl (Sx.none))) ?_
          refine WD.done (by kernel_rfl) ?_
          refine WQ.then_normal ?_
          refine WC.ret ?_
          refine WQ.then_ret ?_
          refine WQ.ret (rs := [.cell 2 25, .cell 3 82]) rfl (.cellN F.agg25 rfl (by repeat (first | exact List.Mem.head _ | apply List.Mem.tail)) rfl (.cellN F.agg82 rfl (by repeat (first | exact List.Mem.head _ | apply List.Mem.tail)) rfl .nil)) (fun w hS => ?_)
          exact ⟨(Fs, _, _), rfl, (St.pick hS (c := own Fs _ _) (by repeat (first | exact Rem.here | apply Rem.there))).one1⟩
        · skip
          rw [hs3] at hq
          dsimp only at hq
          rw [if_pos rfl] at hq
          obtain ⟨⟨t3, r3⟩, h3, hq⟩ := Option.bind_eq_some_iff.1 hq
          injection hq with hq
          subst hq
          refine WC.region ?_
          refine WL.step ?_
          refine WL.loadW F.agg82 rfl rfl (by repeat (first | exact List.Mem.head _ | apply List.Mem.tail)) rfl ?_
          refine WL.step ?_
          refine WL.callV (v := .tuple #[rdv T a c s3, .bool true]) F.fun91 rfl rfl (fun w hS => by have h9 := rskip_c T a c r2 [58] (by first | simp | exact Fm.rowSign_ne _) hT w (hr.next hS); rw [hs3] at h9; exact h9) ?_
          refine WL.step ?_
          refine WL.move rfl rfl ?_
          refine WL.step ?_
          refine WL.extract rfl rfl rfl ?_
          refine WL.step ?_
          refine WL.extract rfl rfl rfl ?_
          refine WL.step ?_
          refine WL.storeN F.agg82 rfl rfl rfl (by simp [Value.oneCell']) (by repeat (first | exact Upd.here | apply Upd.there)) (by repeat constructor) ?_
          refine WL.step ?_
          refine WL.assign rfl rfl ?_
          refine WL.nil ?_
          refine WQ.then_normal ?_
          refine WC.seq ?_
          refine WC.seq ?_
          refine WC.region ?_
          refine WL.step ?_
          refine WL.move rfl rfl ?_
          refine WL.step ?_
          refine WL.not rfl rfl ?_
          refine WL.nil ?_
          refine WQ.then_normal ?_
          refine WC.condF rfl ?_
          refine WC.skip ?_
          refine WQ.then_normal ?_
          refine WC.seq ?_
          refine WC.region ?_
          refine WL.step ?_
          refine WL.loadW F.agg82 rfl rfl (by repeat (first | exact List.Mem.head _ | apply List.Mem.tail)) rfl ?_
          refine WL.step ?_
          refine WL.callC (β := List Nat × Option Addr × Nat) (res := fun y => .tuple #[tv t3 y.2.1 y.2.2, rdv T a c r3]) (cs := fun y => [own y.1 t3 (tv t3 y.2.1 y.2.2)]) (Cs := []) (O' := []) F.fun49 (fun d h => by cases h; rfl) rfl (List.Perm.refl _) (by simp) (by simp) (fun w hS _ => hrec s3 (t3, r3) w (hr.next hS) h3) (fun y58 => ?_)
          refine WL.step ?_
          refine WL.move rfl rfl ?_
          refine WL.step ?_
          refine WL.extract rfl rfl rfl ?_
          refine WL.step ?_
          refine WL.extract rfl rfl rfl ?_
          refine WL.step ?_
          refine WL.alloc F.zero25 rfl (fun b10 => ?_)
          refine WL.step ?_
          refine WL.storeN F.agg25 rfl rfl rfl (by simp [Value.oneCell']) (by repeat (first | exact Upd.here | apply Upd.there)) (by repeat constructor) ?_
          refine WL.step ?_
          refine WL.storeN F.agg82 rfl rfl rfl (by simp [Value.oneCell']) (by repeat (first | exact Upd.here | apply Upd.there)) (by repeat constructor) ?_
          refine WL.nil ?_
          refine WQ.then_normal ?_
          refine WC.seq ?_
          refine WC.drawsL (by kernel_rfl) (FactsOk.cons (ds := [3, 6, 7]) (LoadOk.whole (t := 4) rfl (by repeat (first | exact List.Mem.head _ | apply List.Mem.tail))) (FactsOk.cons (ds := [3, 6, 7]) (LoadOk.whole (t := 9) rfl (by repeat (first | exact List.Mem.head _ | apply List.Mem.tail))) (FactsOk.cons (ds := [3, 6, 7]) (LoadOk.whole (t := 10) rfl (by repeat (first | exact List.Mem.head _ | apply List.Mem.tail))) (FactsOk.cons (ds := [7]) (LoadOk.whole (t := 1) rfl (by repeat (first | exact List.Mem.head _ | apply List.Mem.tail))) (FactsOk.nil))))) ?_
          refine WD.take (i := 0) rfl rfl rfl rfl (by kernel_rfl) (by kernel_rfl) (by kernel_rfl) (fun _ _ _ h => h) (by kernel_rfl) (need_at 0 8 rfl (by kernel_rfl)) (Yl.loadN F.agg25 rfl rfl) ?_
          refine WD.take (i := 1) rfl rfl rfl rfl (by kernel_rfl) (by kernel_rfl) (by kernel_rfl) (fun _ _ _ h => h) (by kernel_rfl) (need_at 1 8 rfl (by kernel_rfl)) (Yl.loadN F.agg25 rfl rfl) ?_
          refine WD.take (i := 2) rfl rfl rfl rfl (by kernel_rfl) (by kernel_rfl) (by kernel_rfl) (fun _ _ _ h => h) (by kernel_rfl) (need_at 2 8 rfl (by kernel_rfl)) (Yl.loadN F.agg25 rfl rfl) ?_
          refine WD.take (i := 5) rfl rfl rfl rfl (by kernel_rfl) (by kernel_rfl) (by kernel_rfl) (fun _ _ _ h => h) (by kernel_rfl) (need_at 3 8 rfl (by kernel_rfl)) (Yl.loadN F.agg82 rfl rfl) ?_
          refine WD.one (i := 3) (by kernel_rfl) rfl ?_
          refine WL.buildSlice F.sl23 F.ez23 rfl rfl rfl rfl (by repeat (first | exact Built.nil | apply Built.one rfl rfl (by repeat constructor) | apply Built.agg rfl rfl (by repeat constructor))) rfl (fun b64 => ?_)
          refine WD.on (closed_of (by kernel_rfl)) (fun w hS => Sx.gone rfl (Sx.gone rfl (Sx.gone rfl (Sx.keep ((fun j v hv => by rw [Nat.zero_add]; exact hS.cell (by repeat (first | exact List.Mem.head _ | apply List.Mem.tail)) hv)) (Sx.none))))) ?_
          refine WD.take (i := 4) rfl rfl rfl rfl (by kernel_rfl) (by kernel_rfl) (by kernel_rfl) (fun _ _ _ h => h) (by kernel_rfl) need_none (Yl.build F.stT25 rfl (by repeat (first | exact Built.nil | apply Built.one rfl rfl (by repeat constructor) | apply Built.agg rfl rfl (by repeat constructor)))) ?_
          refine WD.one (i := 6) (by kernel_rfl) rfl ?_
          refine WL.storeN F.agg25 rfl rfl rfl (by simp [Value.oneCell']) (by repeat (first | exact Upd.here | apply Upd.there)) (by repeat constructor) ?_
          refine WD.on (closed_of (by kernel_rfl)) (fun w hS => Sx.gone rfl (Sx.gone rfl (Sx.gone rfl (Sx.keep ((fun j v hv => by rw [Nat.zero_add]; exact hS.cell (by repeat (first | exact List.Mem.head _ | apply List.Mem.tail)) hv)) (Sx.none))))) ?_
          refine WD.one (i := 7) (by kernel_rfl) rfl ?_
          refine WL.storeN F.agg82 rfl rfl rfl (by simp [Value.oneCell']) (by repeat (first | exact Upd.here | apply Upd.there)) (by repeat constructor) ?_
          refine WD.on (closed_of (by kernel_rfl)) (fun w hS => Sx.gone rfl (Sx.gone rfl (Sx.gone rfl (Sx.gone rfl (Sx.none))))) ?_
          refine WD.done (by kernel_rfl) ?_
          refine WQ.then_normal ?_
          refine WC.ret ?_
          refine WQ.ret (rs := [.cell 2 25, .cell 3 82]) rfl (.cellN F.agg25 rfl (by repeat (first | exact List.Mem.head _ | apply List.Mem.tail)) rfl (.cellN F.agg82 rfl (by repeat (first | exact List.Mem.head _ | apply List.Mem.tail)) rfl .nil)) (fun w hS => ?_)
          obtain ⟨F, h⟩ := St.node3 10 (t1 := (Tree.mk 9 [] [t1, t0])) (St.pick (St.pick (St.pick (St.pick hS (c := own y58.1 t3 (tv t3 y58.2.1 y58.2.2)) (by repeat (first | exact Rem.here | apply Rem.there))) (c := own y43.1 t2 (tv t2 y43.2.1 y43.2.2)) (by repeat (first | exact Rem.here | apply Rem.there))) (c := own (Fs, (some (⟨b29, 0, none⟩ : Addr)), 2).1 ((Tree.mk 9 [] [t1, t0])) (tv ((Tree.mk 9 [] [t1, t0])) (Fs, (some (⟨b29, 0, none⟩ : Addr)), 2).2.1 (Fs, (some (⟨b29, 0, none⟩ : Addr)), 2).2.2)) (by repeat (first | exact Rem.here | apply Rem.there))) (c := pt b64 [.int .u8 ((Tree.mk 9 [] [t1, t0])).op, .string (str ((Tree.mk 9 [] [t1, t0])).name), .slice (Fs, (some (⟨b29, 0, none⟩ : Addr)), 2).2.1 ((Tree.mk 9 [] [t1, t0])).kids.length (Fs, (some (⟨b29, 0, none⟩ : Addr)), 2).2.2, .int .u8 t2.op, .string (str t2.name), .slice y43.2.1 t2.kids.length y43.2.2, .int .u8 t3.op, .string (str t3.name), .slice y58.2.1 t3.kids.length y58.2.2] 25) (by repeat (first | exact Rem.here | apply Rem.there)))
          exact ⟨(F, _, _), rfl, h.one1⟩

end Go.Proofs.Ytbippghgkbapnaa
