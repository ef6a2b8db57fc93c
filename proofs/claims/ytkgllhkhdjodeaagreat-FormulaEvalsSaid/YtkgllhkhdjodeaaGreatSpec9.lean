import Derived.Test.YtkgllhkhdjodeaaGreatSpec8
set_option linter.unusedSimpArgs false
set_option linter.unusedVariables false
namespace Fm
open Go Go.Eng
/-! ### the reader says what the parser says -/
section
variable {text : List UInt8} {T : List Tk} {e : Int} {I a b : Nat} {x s : List UInt8} {r : RS} {q : Tree × RS} {t : Tree}
def OffS (T : List Tk) (r : RS) : Prop := r.2 = true ∨ T.length ≤ r.1
def BadAt (T : List Tk) (e : Int) (b : Nat) (r : RS) : Prop := (r.2 = true ∧ ∃ y, T[r.1]? = some (b, y)) ∨ (T.length ≤ r.1 ∧ e = (b : Int))
theorem BadAt.off (h : BadAt T e b r) : OffS T r := by
  rcases h with h | h
  · exact .inl h.1
  · exact .inr h.1
theorem BadAt.set (h : BadAt T e b r) : BadAt T e b (r.1, true) := by
  rcases h with h | h
  · exact .inl ⟨rfl, h.2⟩
  · exact .inr h
theorem rword_off (h : OffS T r) : rword T r = [] := by
  unfold rword
  rcases h with h | h
  · rw [if_pos h]
  · split
    · rfl
    · rw [List.getElem?_eq_none h]
theorem rskip_off (h : OffS T r) (hs : s ≠ []) : rskip T r s = (r, false) := by
  unfold rskip; rw [rword_off h, if_neg (Ne.symm hs)]
theorem off_set {I : Nat} : OffS T (I, true) := .inl rfl
theorem rowSign_ne (i : Nat) : rowSign i ≠ [] := by intro h; have := rowSign_len i; rw [h] at this; cases this
theorem off_least {T : List Tk} {r : RS} (h : OffS T r) : rp T 1 .least r = some (zeroTree, (r.1, true)) := by
  rw [rp, if_pos (rword_off h)]
theorem off_row {T : List Tk} : ∀ (k i : Nat) (r : RS), i + k = 3 → OffS T r → ∃ m t, rp T m (.row i) r = some (t, (r.1, true))
  | 0, i, r, hi, h => ⟨2, zeroTree, by rw [rp, if_pos (by omega)]; exact off_least h⟩
  | k + 1, i, r, hi, h => by
    obtain ⟨m, t, hm⟩ := off_row k (i + 1) r (by omega) h
    refine ⟨m + 2, mkRow i [t], ?_⟩
    rw [rp, if_neg (by omega), rp_mono hm (by omega)]
    simp only [Option.bind_some]
    rw [rp, rskip_off off_set (rowSign_ne i)]
    rfl
theorem off_row' {T : List Tk} {i : Nat} {r : RS} (hi : i ≤ 3) (h : OffS T r) : ∃ m t, rp T m (.row i) r = some (t, (r.1, true)) := off_row (3 - i) i r (by omega) h
theorem off_implies {T : List Tk} {r : RS} (h : OffS T r) : ∃ m t, rp T m .implies r = some (t, (r.1, true)) := by
  obtain ⟨m, t, hm⟩ := off_row' (i := 0) (by omega) h
  refine ⟨m + 1, t, ?_⟩
  rw [rp, hm]
  simp only [Option.bind_some]
  rw [rskip_off off_set (by simp)]
  rfl
theorem off_choice {T : List Tk} {r : RS} (h : OffS T r) : ∃ m t, rp T m .choice r = some (t, (r.1, true)) := by
  obtain ⟨m, t, hm⟩ := off_implies h
  refine ⟨m + 1, t, ?_⟩
  rw [rp, hm]
  simp only [Option.bind_some]
  rw [rskip_off off_set (by simp)]
  simp only [Bool.false_eq_true, if_false, Option.bind_some]
  rw [rskip_off off_set (by simp)]
  rfl
theorem rword_at (h : AtTok text T e I a x) : rword T (I, false) = x := by
  unfold rword; simp only [Bool.false_eq_true, if_false, h.get]
theorem takes_sim (h : AtTok text T e I a x) (hs : s ≠ []) :
    (takes text a x s = .no → rskip T (I, false) s = ((I, false), false)) ∧
    (∀ a' x', takes text a x s = .yes a' x' → rskip T (I, false) s = ((I + 1, false), true) ∧ AtTok text T e (I + 1) a' x') ∧
    (∀ b, takes text a x s = .bad b → rskip T (I, false) s = ((I + 1, false), true) ∧ BadAt T e b (I + 1, false)) := by
  unfold takes rskip
  rw [rword_at h]
  by_cases hx : x = s
  · rw [if_pos hx, if_pos hx]
    have hn := h.next (by rw [hx]; exact hs)
    refine ⟨fun h => ?_, fun a' x' h => ?_, fun b h => ?_⟩
    · split at h <;> cases h
    · split at h
      · rename_i a2 x2 h2
        injection h with h3 h4
        subst h3; subst h4
        exact ⟨rfl, hn.1 _ _ h2⟩
      · cases h
    · split at h
      · cases h
      · rename_i b2 h2
        injection h with h3
        subst h3
        have := hn.2 _ h2
        exact ⟨rfl, .inr ⟨by show T.length ≤ I + 1; omega, this.2⟩⟩
  · rw [if_neg hx, if_neg hx]
    exact ⟨fun _ => rfl, fun _ _ h => (by cases h), fun _ h => (by cases h)⟩
def Rel (text : List UInt8) (T : List Tk) (e : Int) : PR → Tree × RS → Prop
  | .ok t a x, q => q.1 = t ∧ q.2.2 = false ∧ AtTok text T e q.2.1 a x
  | .bad b, q => BadAt T e b q.2
theorem Rel.ok' (h : Rel text T e (.ok t a x) q) : ∃ J, q = (t, (J, false)) ∧ AtTok text T e J a x := by
  obtain ⟨t', J, bd⟩ := q
  obtain ⟨h1, h2, h3⟩ := h
  exact ⟨J, by rw [show t' = t from h1, show bd = false from h2], h3⟩
end
def sameP (T : List Tk) (n : Nat) (r : RS) : Option (Tree × RS) := (rp T n .implies r).bind fun q1 => if (rskip T q1.2 [60, 61, 62]).2 then (rp T n .implies (rskip T q1.2 [60, 61, 62]).1).bind fun q2 => some (Tree.mk 9 [] [q1.1, q2.1], q2.2) else some q1
theorem sameP_mono {T : List Tk} {n m : Nat} {r : RS} {q} (h : sameP T n r = some q) (hm : n ≤ m) : sameP T m r = some q := by
  unfold sameP at h ⊢
  refine bind_mono h (fun a ha => rp_mono ha hm) fun a b h => ?_
  split at h
  · rename_i hs; rw [if_pos hs]
    exact bind_mono h (fun a ha => rp_mono ha hm) fun _ _ h => h
  · rename_i hs; rw [if_neg hs]; exact h
def Sim (text : List UInt8) (T : List Tk) (e : Int) (I : Nat) (x : List UInt8) (p : PR) : NT → Prop
  | .choice => ∃ m q, rp T m .choice (I, false) = some q ∧ Rel text T e p q
  | .same => ∃ m q, sameP T m (I, false) = some q ∧ Rel text T e p q
  | .implies => ∃ m q, rp T m .implies (I, false) = some q ∧ Rel text T e p q
  | .row i => i ≤ 3 → ∃ m q, rp T m (.row i) (I, false) = some q ∧ Rel text T e p q
  | .rest i acc => i ≤ 2 → ∃ m q, rp T m (.rest i acc) (I, false) = some q ∧ Rel text T e p q
  | .not => ∃ m q, rp T m .least (I, false) = some q ∧ Rel text T e p q
  | .least => x ≠ [33] → ∃ m q, rp T m .least (I, false) = some q ∧ Rel text T e p q
/-- What a token may be. -/
theorem tok_kinds {rest x : List UInt8} (h : tok rest = some x) : x = [] ∨ x ∈ signs ∨ x = [48] ∨ x = [49] ∨ isNameB x = true := by
  unfold tok at h
  split at h
  · injection h with h; exact .inl h.symm
  · split at h
    · rename_i s hs
      injection h with h
      subst h
      exact .inr (.inl (List.mem_of_find?_eq_some hs))
    · split at h
      · rename_i hw
        injection h with h
        subst h
        exact .inr (.inr hw)
      · cases h
theorem next_kinds {text x x' : List UInt8} {a a' : Nat} (h : next text a x = .ok a' x') : x' = [] ∨ x' ∈ signs ∨ x' = [48] ∨ x' = [49] ∨ isNameB x' = true := by
  simp only [next] at h
  split at h
  · rename_i y hy
    injection h with _ h
    subst h
    exact tok_kinds hy
  · cases h
theorem name_leaf {x : List UInt8} (h : isNameB x = true) : noLeaf x = false := by
  cases x with
  | nil => simp [isNameB] at h
  | cons c r =>
    simp only [isNameB, Bool.and_eq_true, List.all_cons] at h
    simp [noLeaf, h.2.1]
theorem sign_leaf {x : List UInt8} (h : x ∈ signs) : noLeaf x = true ∧ isNameB x = false ∧ x ≠ [48] ∧ x ≠ [49] := by
  have : ∀ x ∈ signs, noLeaf x = true ∧ isNameB x = false ∧ x ≠ [48] ∧ x ≠ [49] := by decide
  exact this x h
/-- Every token in the row is of a kind. -/
def Kinds (x : List UInt8) : Prop := x = [] ∨ x ∈ signs ∨ x = [48] ∨ x = [49] ∨ isNameB x = true
theorem sim {text : List UInt8} {T : List Tk} {e : Int} (hk : ∀ (I a : Nat) (x : List UInt8), T[I]? = some (a, x) → Kinds x) : ∀ (n : Nat) (nt : NT) (a : Nat) (x : List UInt8) (p : PR) (I : Nat), AtTok text T e I a x → parse text n nt a x = some p → Sim text T e I x p nt := by
  intro n
  induction n with
  | zero => intro nt a x p I _ h; simp [parse] at h
  | succ n ih =>
    intro nt a x p I hat h
    cases nt with
    | choice =>
      simp only [parse] at h
      show ∃ m q, _ ∧ _
      rcases bindP_ok h with ⟨b, h1, rfl⟩ | ⟨t1, a1, x1, h1, h⟩
      · obtain ⟨m, q, h2, hb⟩ := ih .same _ _ _ I hat h1
        refine ⟨m + 1, q, ?_, hb⟩
        rw [rp]
        have h2' := h2
        unfold sameP at h2'
        rw [← Option.bind_assoc, h2']
        simp only [Option.bind_some]
        rw [rskip_off hb.off (by simp)]; rfl
      · obtain ⟨m, q, h2, hb⟩ := ih .same _ _ _ I hat h1
        obtain ⟨J, rfl, hat1⟩ := hb.ok'
        have ht := takes_sim (s := [63]) hat1 (by simp)
        have hh := bindT_ok h
        clear h
        rcases hh with ⟨h3, h⟩ | ⟨a2, x2, h3, h⟩ | ⟨b, h3, rfl⟩
        · injection h with h; subst h
          refine ⟨m + 1, _, ?_, hb⟩
          rw [rp]
          have h2' := h2
          unfold sameP at h2'
          rw [← Option.bind_assoc, h2']
          simp only [Option.bind_some]
          rw [ht.1 h3]; rfl
        · obtain ⟨hs, hat2⟩ := ht.2.1 _ _ h3
          rcases bindP_ok h with ⟨b, h4, rfl⟩ | ⟨t2, a3, x3, h4, h⟩
          · obtain ⟨m2, q2, h5, hb2⟩ := ih .choice _ _ _ _ hat2 h4
            refine ⟨m + m2 + 1, (t1, (q2.2.1, true)), ?_, hb2.set⟩
            rw [rp]
            have h2' := sameP_mono h2 (show m ≤ m + m2 by omega)
            unfold sameP at h2'
            rw [← Option.bind_assoc, h2']
            simp only [Option.bind_some]
            rw [hs]
            simp only [if_true]
            rw [rp_mono h5 (by omega)]
            simp only [Option.bind_some]
            rw [rskip_off hb2.off (by simp)]; rfl
          · obtain ⟨m2, q2, h5, hb2⟩ := ih .choice _ _ _ _ hat2 h4
            obtain ⟨J2, rfl, hat3⟩ := hb2.ok'
            have ht2 := takes_sim (s := [58]) hat3 (by simp)
            have hh := bindT_ok h
            clear h
            rcases hh with ⟨h6, h⟩ | ⟨a4, x4, h6, h⟩ | ⟨b, h6, rfl⟩
            · injection h with h; subst h
              refine ⟨m + m2 + 1, (t1, (J2, true)), ?_, .inl ⟨rfl, _, hat3.get⟩⟩
              rw [rp]
              have h2' := sameP_mono h2 (show m ≤ m + m2 by omega)
              unfold sameP at h2'
              rw [← Option.bind_assoc, h2']
              simp only [Option.bind_some]
              rw [hs]
              simp only [if_true]
              rw [rp_mono h5 (by omega)]
              simp only [Option.bind_some]
              rw [ht2.1 h6]; rfl
            · obtain ⟨hs2, hat4⟩ := ht2.2.1 _ _ h6
              have fin : ∀ (m3 : Nat) (q3 : Tree × RS), rp T m3 .choice (J2 + 1, false) = some q3 → rp T (m + m2 + m3 + 1) .choice (I, false) = some (Tree.mk 10 [] [t1, t2, q3.1], q3.2) := fun m3 q3 h8 => by
                rw [rp]
                have h2' := sameP_mono h2 (show m ≤ m + m2 + m3 by omega)
                unfold sameP at h2'
                rw [← Option.bind_assoc, h2']
                simp only [Option.bind_some]
                rw [hs]
                simp only [if_true]
                rw [rp_mono h5 (by omega)]
                simp only [Option.bind_some]
                rw [hs2]
                simp only [if_true]
                rw [rp_mono h8 (by omega)]
                rfl
              rcases bindP_ok h with ⟨b, h7, rfl⟩ | ⟨t3, a5, x5, h7, h⟩
              · obtain ⟨m3, q3, h8, hb3⟩ := ih .choice _ _ _ _ hat4 h7
                exact ⟨_, _, fin m3 q3 h8, hb3⟩
              · obtain ⟨m3, q3, h8, hb3⟩ := ih .choice _ _ _ _ hat4 h7
                obtain ⟨J3, rfl, hat5⟩ := hb3.ok'
                injection h with h; subst h
                exact ⟨_, _, fin m3 _ h8, rfl, rfl, hat5⟩
            · obtain ⟨hs2, hbad⟩ := ht2.2.2 _ h6
              obtain ⟨m3, t3, h8⟩ := off_choice hbad.off
              refine ⟨m + m2 + m3 + 1, (Tree.mk 10 [] [t1, t2, t3], (J2 + 1, true)), ?_, hbad.set⟩
              rw [rp]
              have h2' := sameP_mono h2 (show m ≤ m + m2 + m3 by omega)
              unfold sameP at h2'
              rw [← Option.bind_assoc, h2']
              simp only [Option.bind_some]
              rw [hs]
              simp only [if_true]
              rw [rp_mono h5 (by omega)]
              simp only [Option.bind_some]
              rw [hs2]
              simp only [if_true]
              rw [rp_mono h8 (by omega)]
              rfl
        · obtain ⟨hs, hbad⟩ := ht.2.2 _ h3
          obtain ⟨m2, t2, h5⟩ := off_choice hbad.off
          refine ⟨m + m2 + 1, (t1, (J + 1, true)), ?_, hbad.set⟩
          rw [rp]
          have h2' := sameP_mono h2 (show m ≤ m + m2 by omega)
          unfold sameP at h2'
          rw [← Option.bind_assoc, h2']
          simp only [Option.bind_some]
          rw [hs]
          simp only [if_true]
          rw [rp_mono h5 (by omega)]
          simp only [Option.bind_some]
          rw [rskip_off off_set (by simp)]; rfl
    | same =>
      simp only [parse] at h
      show ∃ m q, _ ∧ _
      rcases bindP_ok h with ⟨b, h1, rfl⟩ | ⟨t1, a1, x1, h1, h⟩
      · obtain ⟨m, q, h2, hb⟩ := ih .implies _ _ _ I hat h1
        refine ⟨m, q, ?_, hb⟩
        rw [sameP, h2]
        simp only [Option.bind_some]
        rw [rskip_off hb.off (by simp)]; rfl
      · obtain ⟨m, q, h2, hb⟩ := ih .implies _ _ _ I hat h1
        obtain ⟨J, rfl, hat1⟩ := hb.ok'
        have ht := takes_sim (s := [60, 61, 62]) hat1 (by simp)
        have hh := bindT_ok h
        clear h
        rcases hh with ⟨h3, h⟩ | ⟨a2, x2, h3, h⟩ | ⟨b, h3, rfl⟩
        · injection h with h; subst h
          refine ⟨m, _, ?_, hb⟩
          rw [sameP, h2]
          simp only [Option.bind_some]
          rw [ht.1 h3]; rfl
        · obtain ⟨hs, hat2⟩ := ht.2.1 _ _ h3
          have fin : ∀ (m2 : Nat) (q2 : Tree × RS), rp T m2 .implies (J + 1, false) = some q2 → sameP T (m + m2) (I, false) = some (Tree.mk 9 [] [t1, q2.1], q2.2) := fun m2 q2 h8 => by
            rw [sameP, rp_mono h2 (by omega)]
            simp only [Option.bind_some]
            rw [hs]
            simp only [if_true]
            rw [rp_mono h8 (by omega)]; rfl
          rcases bindP_ok h with ⟨b, h4, rfl⟩ | ⟨t2, a3, x3, h4, h⟩
          · obtain ⟨m2, q2, h5, hb2⟩ := ih .implies _ _ _ _ hat2 h4
            exact ⟨_, _, fin m2 q2 h5, hb2⟩
          · obtain ⟨m2, q2, h5, hb2⟩ := ih .implies _ _ _ _ hat2 h4
            obtain ⟨J2, rfl, hat3⟩ := hb2.ok'
            injection h with h; subst h
            exact ⟨_, _, fin m2 _ h5, rfl, rfl, hat3⟩
        · obtain ⟨hs, hbad⟩ := ht.2.2 _ h3
          obtain ⟨m2, t2, h5⟩ := off_implies hbad.off
          refine ⟨m + m2, (Tree.mk 9 [] [t1, t2], (J + 1, true)), ?_, hbad.set⟩
          rw [sameP, rp_mono h2 (by omega)]
          simp only [Option.bind_some]
          rw [hs]
          simp only [if_true]
          rw [rp_mono h5 (by omega)]; rfl
    | implies =>
      simp only [parse] at h
      show ∃ m q, _ ∧ _
      rcases bindP_ok h with ⟨b, h1, rfl⟩ | ⟨t1, a1, x1, h1, h⟩
      · obtain ⟨m, q, h2, hb⟩ := ih (.row 0) _ _ _ I hat h1 (by omega)
        refine ⟨m + 1, q, ?_, hb⟩
        rw [rp, h2]
        simp only [Option.bind_some]
        rw [rskip_off hb.off (by simp)]; rfl
      · obtain ⟨m, q, h2, hb⟩ := ih (.row 0) _ _ _ I hat h1 (by omega)
        obtain ⟨J, rfl, hat1⟩ := hb.ok'
        have ht := takes_sim (s := [61, 62]) hat1 (by simp)
        have hh := bindT_ok h
        clear h
        rcases hh with ⟨h3, h⟩ | ⟨a2, x2, h3, h⟩ | ⟨b, h3, rfl⟩
        · injection h with h; subst h
          refine ⟨m + 1, _, ?_, hb⟩
          rw [rp, h2]
          simp only [Option.bind_some]
          rw [ht.1 h3]; rfl
        · obtain ⟨hs, hat2⟩ := ht.2.1 _ _ h3
          have fin : ∀ (m2 : Nat) (q2 : Tree × RS), rp T m2 .implies (J + 1, false) = some q2 → rp T (m + m2 + 1) .implies (I, false) = some (Tree.mk 8 [] [t1, q2.1], q2.2) := fun m2 q2 h8 => by
            rw [rp, rp_mono h2 (by omega)]
            simp only [Option.bind_some]
            rw [hs]
            simp only [if_true]
            rw [rp_mono h8 (by omega)]; rfl
          rcases bindP_ok h with ⟨b, h4, rfl⟩ | ⟨t2, a3, x3, h4, h⟩
          · obtain ⟨m2, q2, h5, hb2⟩ := ih .implies _ _ _ _ hat2 h4
            exact ⟨_, _, fin m2 q2 h5, hb2⟩
          · obtain ⟨m2, q2, h5, hb2⟩ := ih .implies _ _ _ _ hat2 h4
            obtain ⟨J2, rfl, hat3⟩ := hb2.ok'
            injection h with h; subst h
            exact ⟨_, _, fin m2 _ h5, rfl, rfl, hat3⟩
        · obtain ⟨hs, hbad⟩ := ht.2.2 _ h3
          obtain ⟨m2, t2, h5⟩ := off_implies hbad.off
          refine ⟨m + m2 + 1, (Tree.mk 8 [] [t1, t2], (J + 1, true)), ?_, hbad.set⟩
          rw [rp, rp_mono h2 (by omega)]
          simp only [Option.bind_some]
          rw [hs]
          simp only [if_true]
          rw [rp_mono h5 (by omega)]; rfl
    | row i =>
      simp only [parse] at h
      intro hi
      split at h
      · rename_i h3
        obtain ⟨m, q, h2, hb⟩ := ih .not _ _ _ I hat h
        exact ⟨m + 1, q, by rw [rp, if_pos h3]; exact h2, hb⟩
      · rename_i h3
        rcases bindP_ok h with ⟨b, h1, rfl⟩ | ⟨t1, a1, x1, h1, h⟩
        · obtain ⟨m, q, h2, hb⟩ := ih (.row (i + 1)) _ _ _ I hat h1 (by omega)
          refine ⟨m + 2, (mkRow i [q.1], q.2), ?_, hb⟩
          rw [rp, if_neg h3, rp_mono h2 (by omega)]
          simp only [Option.bind_some]
          rw [rp, rskip_off hb.off (rowSign_ne i)]; rfl
        · obtain ⟨m, q, h2, hb⟩ := ih (.row (i + 1)) _ _ _ I hat h1 (by omega)
          obtain ⟨J, rfl, hat1⟩ := hb.ok'
          obtain ⟨m2, q2, h4, hb2⟩ := ih (.rest i [t1]) _ _ _ J hat1 h (by omega)
          refine ⟨m + m2 + 1, q2, ?_, hb2⟩
          rw [rp, if_neg h3, rp_mono h2 (by omega)]
          simp only [Option.bind_some]
          exact rp_mono h4 (by omega)
    | rest i acc =>
      simp only [parse] at h
      intro hi
      have ht := takes_sim (s := rowSign i) hat (rowSign_ne i)
      have hh := bindT_ok h
      clear h
      rcases hh with ⟨h3, h⟩ | ⟨a2, x2, h3, h⟩ | ⟨b, h3, rfl⟩
      · injection h with h; subst h
        exact ⟨1, _, by rw [rp, ht.1 h3]; rfl, rfl, rfl, hat⟩
      · obtain ⟨hs, hat2⟩ := ht.2.1 _ _ h3
        rcases bindP_ok h with ⟨b, h4, rfl⟩ | ⟨t2, a3, x3, h4, h⟩
        · obtain ⟨m, q, h2, hb⟩ := ih (.row (i + 1)) _ _ _ _ hat2 h4 (by omega)
          refine ⟨m + 2, (mkRow i (acc ++ [q.1]), q.2), ?_, hb⟩
          rw [rp, hs]
          simp only [if_true]
          rw [rp_mono h2 (by omega)]
          simp only [Option.bind_some]
          rw [rp, rskip_off hb.off (rowSign_ne i)]; rfl
        · obtain ⟨m, q, h2, hb⟩ := ih (.row (i + 1)) _ _ _ _ hat2 h4 (by omega)
          obtain ⟨J, rfl, hat3⟩ := hb.ok'
          obtain ⟨m2, q2, h5, hb2⟩ := ih (.rest i (acc ++ [t2])) _ _ _ J hat3 h (by omega)
          refine ⟨m + m2 + 1, q2, ?_, hb2⟩
          rw [rp, hs]
          simp only [if_true]
          rw [rp_mono h2 (by omega)]
          simp only [Option.bind_some]
          exact rp_mono h5 (by omega)
      · obtain ⟨hs, hbad⟩ := ht.2.2 _ h3
        obtain ⟨m, t2, h5⟩ := off_row' (i := i + 1) (by omega) hbad.off
        refine ⟨m + 2, (mkRow i (acc ++ [t2]), (I + 1, true)), ?_, hbad.set⟩
        rw [rp, hs]
        simp only [if_true]
        rw [rp_mono h5 (by omega)]
        simp only [Option.bind_some]
        rw [rp, rskip_off off_set (rowSign_ne i)]; rfl
    | not =>
      simp only [parse] at h
      show ∃ m q, _ ∧ _
      have ht := takes_sim (s := [33]) hat (by simp)
      have hh := bindT_ok h
      clear h
      rcases hh with ⟨h3, h⟩ | ⟨a2, x2, h3, h⟩ | ⟨b, h3, rfl⟩
      · refine ih .least _ _ _ I hat h (fun hx => ?_)
        subst hx
        simp only [takes, if_true] at h3
        split at h3 <;> cases h3
      · have hx := takes_word h3
        subst hx
        obtain ⟨hs, hat2⟩ := ht.2.1 _ _ h3
        have fin : ∀ (m2 : Nat) (q2 : Tree × RS), rp T m2 .least (I + 1, false) = some q2 → rp T (m2 + 1) .least (I, false) = some (Tree.mk 4 [] [q2.1], q2.2) := fun m2 q2 h8 => by
          rw [rp, rword_at hat, if_neg (by simp), if_pos rfl, h8]; rfl
        rcases bindP_ok h with ⟨b, h4, rfl⟩ | ⟨t2, a3, x3, h4, h⟩
        · obtain ⟨m2, q2, h5, hb2⟩ := ih .not _ _ _ _ hat2 h4
          exact ⟨_, _, fin m2 q2 h5, hb2⟩
        · obtain ⟨m2, q2, h5, hb2⟩ := ih .not _ _ _ _ hat2 h4
          obtain ⟨J2, rfl, hat3⟩ := hb2.ok'
          injection h with h; subst h
          exact ⟨_, _, fin m2 _ h5, rfl, rfl, hat3⟩
      · have hx : x = [33] := by
          unfold takes at h3
          split at h3
          · assumption
          · cases h3
        subst hx
        obtain ⟨hs, hbad⟩ := ht.2.2 _ h3
        refine ⟨2, (Tree.mk 4 [] [zeroTree], (I + 1, true)), ?_, hbad.set⟩
        rw [rp, rword_at hat, if_neg (by simp), if_pos rfl, off_least hbad.off]; rfl
    | least =>
      simp only [parse] at h
      intro hx33
      have ht := takes_sim (s := [40]) hat (by simp)
      have hkx := hk I a x hat.get
      have hh := bindT_ok h
      clear h
      rcases hh with ⟨h3, h⟩ | ⟨a2, x2, h3, h⟩ | ⟨b, h3, rfl⟩
      · have hx40 : x ≠ [40] := fun hx => by
          subst hx
          simp only [takes, if_true] at h3
          split at h3 <;> cases h3
        split at h
        · rename_i hnl
          injection h with h; subst h
          refine ⟨1, (zeroTree, (I, true)), ?_, .inl ⟨rfl, _, hat.get⟩⟩
          rw [rp, rword_at hat]
          by_cases hx0 : x = []
          · rw [if_pos hx0]
          · rw [if_neg hx0, if_neg hx33, if_neg hx40]
            have h48 : x ≠ [48] := fun hx => by subst hx; exact absurd hnl (by decide)
            have h49 : x ≠ [49] := fun hx => by subst hx; exact absurd hnl (by decide)
            have hnn : ¬ isNameB x = true := fun hx => by rw [name_leaf hx] at hnl; cases hnl
            rw [if_neg h48, if_neg h49, if_neg hnn]
        · rename_i hnl
          have hnl : noLeaf x = false := by simpa using hnl
          have hx0 : x ≠ [] := fun hx => by subst hx; exact absurd hnl (by decide)
          have hn := hat.next hx0
          have hstep : rp T 1 .least (I, false) = some (leaf x, (I + 1, false)) := by
            rw [rp, rword_at hat, if_neg hx0, if_neg hx33, if_neg hx40]
            rcases hkx with h0 | h0 | h0 | h0 | h0
            · exact absurd h0 hx0
            · rw [(sign_leaf h0).1] at hnl; cases hnl
            · rw [if_pos h0, leaf, if_pos h0]
            · rw [if_neg (by rw [h0]; decide), if_pos h0, leaf, if_neg (by rw [h0]; decide), if_pos h0]
            · by_cases h48 : x = [48]
              · rw [if_pos h48, leaf, if_pos h48]
              · by_cases h49 : x = [49]
                · rw [if_neg h48, if_pos h49, leaf, if_neg h48, if_pos h49]
                · rw [if_neg h48, if_neg h49, if_pos h0, leaf, if_neg h48, if_neg h49]
          split at h
          · rename_i b hb
            injection h with h; subst h
            have := hn.2 _ hb
            exact ⟨1, _, hstep, .inr ⟨by show T.length ≤ I + 1; omega, this.2⟩⟩
          · rename_i a1 x1 hb
            injection h with h; subst h
            exact ⟨1, _, hstep, rfl, rfl, hn.1 _ _ hb⟩
      · have hx := takes_word h3
        subst hx
        obtain ⟨hs, hat2⟩ := ht.2.1 _ _ h3
        rcases bindP_ok h with ⟨b, h4, rfl⟩ | ⟨t2, a3, x3, h4, h⟩
        · obtain ⟨m2, q2, h5, hb2⟩ := ih .choice _ _ _ _ hat2 h4
          refine ⟨m2 + 1, (q2.1, (q2.2.1, true)), ?_, hb2.set⟩
          rw [rp, rword_at hat, if_neg (by simp), if_neg (by simp), if_pos rfl, h5]
          simp only [Option.bind_some]
          rw [rskip_off hb2.off (by simp)]; rfl
        · obtain ⟨m2, q2, h5, hb2⟩ := ih .choice _ _ _ _ hat2 h4
          obtain ⟨J2, rfl, hat3⟩ := hb2.ok'
          have ht2 := takes_sim (s := [41]) hat3 (by simp)
          have fin : rp T (m2 + 1) .least (I, false) = some (if (rskip T (J2, false) [41]).2 then (t2, (rskip T (J2, false) [41]).1) else (t2, (J2, true))) := by
            rw [rp, rword_at hat, if_neg (by simp), if_neg (by simp), if_pos rfl, h5]
            simp only [Option.bind_some]
            split <;> rfl
          have hh := bindT_ok h
          clear h
          rcases hh with ⟨h6, h⟩ | ⟨a4, x4, h6, h⟩ | ⟨b, h6, rfl⟩
          · injection h with h; subst h
            rw [ht2.1 h6] at fin
            exact ⟨_, _, fin, .inl ⟨rfl, _, hat3.get⟩⟩
          · obtain ⟨hs2, hat4⟩ := ht2.2.1 _ _ h6
            injection h with h; subst h
            rw [hs2] at fin
            exact ⟨_, _, fin, rfl, rfl, hat4⟩
          · obtain ⟨hs2, hbad⟩ := ht2.2.2 _ h6
            rw [hs2] at fin
            exact ⟨_, _, fin, hbad⟩
      · have hx : x = [40] := by
          unfold takes at h3
          split at h3
          · assumption
          · cases h3
        subst hx
        obtain ⟨hs, hbad⟩ := ht.2.2 _ h3
        obtain ⟨m2, t2, h5⟩ := off_choice hbad.off
        refine ⟨m2 + 1, (t2, (I + 1, true)), ?_, hbad.set⟩
        rw [rp, rword_at hat, if_neg (by simp), if_neg (by simp), if_pos rfl, h5]
        simp only [Option.bind_some]
        rw [rskip_off off_set (by simp)]; rfl
/-- What the reference answers of a text that is not too long, out of its tokens and what its reader says. -/
def refTop (text : List UInt8) (T : List Tk) (e : Int) (q : Tree × RS) : Tree × Int × Int :=
  if q.2.1 < T.length ∧ (q.2.2 = true ∨ (T.getD q.2.1 (0, [])).2 ≠ []) then (zeroTree, ((T.getD q.2.1 (0, [])).1 : Int), 4)
  else if 0 ≤ e then (zeroTree, e, 4) else if validB q.1 then (q.1, 0, 0) else (zeroTree, (text.length : Int), 5)
theorem toks_kinds {text : List UInt8} : ∀ (n a : Nat) (x : List UInt8) (I b : Nat) (y : List UInt8), (toks text n a x).1[I]? = some (b, y) → Kinds y := by
  intro n
  induction n with
  | zero => intro a x I b y h; simp [toks] at h
  | succ n ih =>
    intro a x I b y h
    simp only [toks] at h
    split at h
    · simp at h
    · rename_i a' x' hn
      split at h
      · cases I with
        | zero => simp at h; exact .inl h.2
        | succ I => simp at h
      · cases I with
        | zero =>
          simp at h
          rw [← h.2]; exact next_kinds hn
        | succ I => exact ih a' x' I b y (by simpa using h)
theorem ref_top (text : List UInt8) (hl : ¬ 65536 < text.length) : ∃ m q, rp (toks text (text.length + 2) 0 []).1 m .choice (0, false) = some q ∧
    refTop text (toks text (text.length + 2) 0 []).1 (toks text (text.length + 2) 0 []).2 q = ((top text).1, ((top text).2.1 : Int), (top text).2.2) := by
  have hgen := fun a' x' h => toks_at (text := text) (text.length + 2) 0 [] [] a' x' (by simp) (by omega) (fun _ => ⟨rfl, by omega⟩) h
  have hkinds := toks_kinds (text := text) (text.length + 2) 0 []
  unfold top
  rw [if_neg hl]
  cases h : next text 0 [] with
  | bad a =>
    have ht : toks text (text.length + 2) 0 [] = ([], (a : Int)) := by rw [toks, h]
    rw [ht]
    obtain ⟨m, t, hm⟩ := off_choice (T := []) (r := (0, false)) (.inr (Nat.le_refl _))
    refine ⟨m, _, hm, ?_⟩
    simp [refTop]
  | ok a x =>
    have hat := hgen a x h
    simp only [List.nil_append, List.length_nil] at hat
    have hle := next_le (at_ := 0) (wd := []) (by simp) h
    obtain ⟨p, hp⟩ := parse_total (text := text) (fuel text) .choice a x hle.2 (by simp only [rank, fuel]; omega)
    obtain ⟨m, q, hm, hr⟩ := sim (fun I a x h => hkinds I a x h) _ .choice _ _ _ _ hat hp
    refine ⟨m, q, hm, ?_⟩
    simp only [hp]
    revert hr
    generalize hT : (toks text (text.length + 2) 0 []).1 = T
    generalize he : (toks text (text.length + 2) 0 []).2 = e
    intro hr
    cases p with
    | bad b =>
      simp only
      by_cases hlt : q.2.1 < T.length
      · rcases hr with hr | hr
        · obtain ⟨y, hy⟩ := hr.2
          have hg : T.getD q.2.1 (0, []) = (b, y) := by rw [List.getD_eq_getElem?_getD, hy]; rfl
          rw [refTop, if_pos ⟨hlt, .inl hr.1⟩, hg]
        · omega
      · rw [refTop, if_neg (fun hh => hlt hh.1)]
        rcases hr with hr | hr
        · obtain ⟨y, hy⟩ := hr.2
          exact absurd (List.getElem?_eq_some_iff.1 hy).1 hlt
        · rw [if_pos (by rw [hr.2]; omega), hr.2]
    | ok t b y =>
      obtain ⟨J, rfl, hat1⟩ := hr.ok'
      have hg : T.getD J (0, []) = (b, y) := by rw [List.getD_eq_getElem?_getD, hat1.get]; rfl
      have hlt : J < T.length := (List.getElem?_eq_some_iff.1 hat1.get).1
      simp only
      by_cases hy : y = []
      · subst hy
        have hlast := hat1.last
        rw [refTop, if_neg (by rw [hg]; simp), if_neg (by omega)]
        simp only [ne_eq, not_true_eq_false, if_false]
        split <;> rfl
      · rw [refTop, if_pos ⟨hlt, .inr (by rw [hg]; exact hy)⟩, hg]
        simp only [ne_eq, hy, not_false_eq_true, if_true]
end Fm

