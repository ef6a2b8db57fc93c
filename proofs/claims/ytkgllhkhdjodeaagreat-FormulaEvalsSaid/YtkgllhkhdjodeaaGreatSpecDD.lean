import Derived.Test.YtkgllhkhdjodeaaGreatSpecD4
set_option linter.unusedSimpArgs false
set_option linter.unusedVariables false
/-! The features on which a set depends. -/
namespace Dg
def hasVar (v : Nat) : BT → Prop
  | .lf _ => False
  | .nd x l h => v = x ∨ hasVar v l ∨ hasVar v h
theorem sup_bit (j : Nat) : ∀ (l : List Dec) (s : Nat), (l.foldl (fun s x => s ||| 2 ^ x.1) s).testBit j = true ↔ s.testBit j = true ∨ ∃ x ∈ l, x.1 = j
  | [], s => by simp
  | x :: l, s => by
    rw [List.foldl_cons, sup_bit j l, Nat.testBit_or, Nat.testBit_two_pow]
    simp
    constructor
    · rintro ((h | h) | h)
      · exact .inl h
      · exact .inr (.inl h)
      · exact .inr (.inr h)
    · rintro (h | h | h)
      · exact .inl (.inl h)
      · exact .inl (.inr h)
      · exact .inr h
theorem visitT_var (t : BT) : ∀ (out : List Dec), ∀ x ∈ (visitT t out).1, x ∈ out ∨ hasVar x.1 t := by
  induction t with
  | lf b => intro out x h; left; simpa [visitT] using h
  | nd v lo hi ihl ihh =>
    intro out x h
    unfold visitT at h
    cases hl : look out (.nd v lo hi) with
    | some p => rw [hl] at h; exact .inl h
    | none =>
      rw [hl] at h
      rcases List.mem_append.1 h with h | h
      · rcases ihh _ x h with h | h
        · rcases ihl _ x h with h | h
          · exact .inl h
          · exact .inr (.inr (.inl h))
        · exact .inr (.inr (.inr h))
      · rw [List.mem_singleton.1 h]; exact .inr (.inl rfl)
theorem trs_var {l : List Dec} (hm : Mk l) {v : Nat} : ∀ (t : BT) (p : Nat), p < l.length + 2 → trs l p = t → hasVar v t → ∃ x ∈ l, x.1 = v
  | .lf _, _, _, _, h => h.elim
  | .nd y lo hi, p, hp, he, h => by
    have h2 : 2 ≤ p := by
      rcases p with _ | _ | p
      · rw [(trs_zero l).1] at he; cases he
      · rw [(trs_zero l).2] at he; cases he
      · omega
    obtain ⟨x, hx⟩ : ∃ x, l[p - 2]? = some x := ⟨_, List.getElem?_eq_getElem (by omega)⟩
    have ha := hm.at hx
    rw [show p - 2 + 2 = p by omega, he] at ha
    injection ha with h3 h4 h5
    have hk := hm.kid _ x hx
    have hxm := List.mem_of_getElem? hx
    rcases h with h | h | h
    · exact ⟨x, hxm, by rw [h, h3]⟩
    · exact trs_var hm lo x.2.1 (by have := (List.getElem?_eq_some_iff.1 hx).1; omega) h4.symm h
    · exact trs_var hm hi x.2.2 (by have := (List.getElem?_eq_some_iff.1 hx).1; omega) h5.symm h
theorem sup_var {t : BT} (ho : t.ok 0) (v : Nat) : (supT (canon t).1).testBit v = true ↔ hasVar v t := by
  unfold supT
  rw [sup_bit]
  constructor
  · rintro (h | ⟨x, hx, rfl⟩)
    · simp at h
    · rcases visitT_var t [] x hx with h | h
      · cases h
      · exact h
  · intro h
    obtain ⟨x, hx, he⟩ := trs_var (canon_mk ho) t (canon t).2 (canon_at t).1 (canon_at t).2 h
    exact .inr ⟨x, hx, he⟩
theorem upd_comm (c : Cf) {x v : Nat} (a b : Bool) (h : x ≠ v) : upd (upd c v b) x a = upd (upd c x a) v b := by
  funext j
  unfold upd
  by_cases h1 : j = x
  · subst h1; rw [if_pos rfl, if_neg h, if_pos rfl]
  · rw [if_neg h1]
    by_cases h2 : j = v
    · rw [if_pos h2, if_pos h2]
    · rw [if_neg h2, if_neg h2, if_neg h1]
theorem not_var : ∀ {t : BT} {m v : Nat}, t.ok m → (∀ c, t.ev (upd c v false) = t.ev (upd c v true)) → ¬ hasVar v t
  | .lf _, _, _, _, _ => fun h => h
  | .nd x l h, m, v, ho, hi => by
    have ho' := ho
    obtain ⟨h1, h2, h3, h4, h5⟩ := ho'
    have hl : ∀ c, l.ev c = (BT.nd x l h).ev (upd c x false) := fun c => (BT.ev_lo ho c).symm
    have hh : ∀ c, h.ev c = (BT.nd x l h).ev (upd c x true) := fun c => (BT.ev_hi ho c).symm
    rintro (rfl | hv | hv)
    · exact h3 (BT.unique h4 h5 fun c => by rw [hl, hh]; exact hi c)
    · by_cases hx : x = v
      · subst hx
        exact h3 (BT.unique h4 h5 fun c => by rw [hl, hh]; exact hi c)
      · exact not_var h4 (fun c => by rw [hl, hl, upd_comm c _ _ hx, upd_comm c _ _ hx]; exact hi _) hv
    · by_cases hx : x = v
      · subst hx
        exact h3 (BT.unique h4 h5 fun c => by rw [hl, hh]; exact hi c)
      · exact not_var h5 (fun c => by rw [hh, hh, upd_comm c _ _ hx, upd_comm c _ _ hx]; exact hi _) hv
theorem no_var : ∀ {t : BT} {v : Nat}, ¬ hasVar v t → ∀ (c : Cf) (b : Bool), t.ev (upd c v b) = t.ev c
  | .lf _, _, _, _, _ => rfl
  | .nd x l h, v, hn, c, b => by
    have hx : x ≠ v := fun e => hn (.inl e.symm)
    simp only [BT.ev]
    rw [no_var (fun hv => hn (.inr (.inl hv))) c b, no_var (fun hv => hn (.inr (.inr hv))) c b, upd_ne c b hx]
/-- The support of a set is the features on which it depends. -/
theorem sup_dep {t : BT} (ho : t.ok 0) (v : Nat) : (supT (canon t).1).testBit v = true ↔ ∃ c, t.ev (upd c v false) ≠ t.ev (upd c v true) := by
  rw [sup_var ho]
  constructor
  · intro h
    refine Classical.byContradiction fun hn => ?_
    exact not_var ho (fun c => Classical.byContradiction fun hc => hn ⟨c, hc⟩) h
  · rintro ⟨c, hc⟩
    refine Classical.byContradiction fun hn => hc ?_
    rw [no_var hn, no_var hn]
theorem sup_fold {n : Nat} : ∀ (l : List Dec) (s : Nat), (∀ x ∈ l, x.1 < n) → s < 2 ^ n → l.foldl (fun s x => s ||| 2 ^ x.1) s < 2 ^ n
  | [], s, _, h => h
  | x :: l, s, hx, h => sup_fold l _ (fun y hy => hx y (List.mem_cons_of_mem _ hy)) (Nat.or_lt_two_pow h (Nat.pow_lt_pow_right (by decide) (hx x (List.mem_cons_self ..))))
theorem supT_take {l : List Dec} {k : Nat} {x : Dec} (h : l[k]? = some x) : supT (l.take (k + 1)) = supT (l.take k) ||| 2 ^ x.1 := by
  unfold supT
  rw [List.take_add_one, h]
  simp
end Dg
