import Derived.Test.YtkgllhkhdjodeaaGreatSpecD3
set_option linter.unusedSimpArgs false
set_option linter.unusedVariables false
/-! What goes through the nodes of one diagram. -/
namespace Dg
def notT : BT → BT
  | .lf b => .lf (!b)
  | .nd v lo hi => mkN v (notT lo) (notT hi)
theorem notT_ok : ∀ {t : BT} {m : Nat}, t.ok m → (notT t).ok m
  | .lf _, _, _ => trivial
  | .nd v lo hi, m, h => mkN_ok h.1 h.2.1 (notT_ok h.2.2.2.1) (notT_ok h.2.2.2.2)
theorem notT_ev : ∀ (t : BT) (c : Cf), (notT t).ev c = !t.ev c
  | .lf _, _ => rfl
  | .nd v lo hi, c => by
    rw [notT, mkN_ev, notT_ev lo, notT_ev hi]
    simp only [BT.ev]
    cases c v <;> rfl
/-- A tree with a feature fixed (a number that is no feature: as it was). -/
def fixT (i : Int) (on : Bool) : BT → BT
  | .lf b => .lf b
  | .nd v lo hi => if (v : Int) = i then (if on then fixT i on hi else fixT i on lo) else mkN v (fixT i on lo) (fixT i on hi)
theorem fixT_ok {i : Int} {on : Bool} : ∀ {t : BT} {m : Nat}, t.ok m → (fixT i on t).ok m
  | .lf _, _, _ => trivial
  | .nd v lo hi, m, h => by
    unfold fixT
    by_cases hv : (v : Int) = i
    · rw [if_pos hv]
      cases on
      · exact BT.ok_mono (fixT_ok h.2.2.2.1) (by have := h.1; omega)
      · exact BT.ok_mono (fixT_ok h.2.2.2.2) (by have := h.1; omega)
    · rw [if_neg hv]
      exact mkN_ok h.1 h.2.1 (fixT_ok h.2.2.2.1) (fixT_ok h.2.2.2.2)
def updI (c : Cf) (i : Int) (b : Bool) : Cf := fun j => if (j : Int) = i then b else c j
theorem fixT_ev {i : Int} {on : Bool} : ∀ (t : BT) (c : Cf), (fixT i on t).ev c = t.ev (updI c i on)
  | .lf _, _ => rfl
  | .nd v lo hi, c => by
    unfold fixT
    by_cases hv : (v : Int) = i
    · rw [if_pos hv]
      simp only [BT.ev, updI, if_pos hv]
      cases on
      · simp only [Bool.false_eq_true, if_false, cond_false]; exact fixT_ev lo c
      · simp only [if_true, cond_true]; exact fixT_ev hi c
    · rw [if_neg hv, mkN_ev, fixT_ev lo, fixT_ev hi]
      simp only [BT.ev, updI, if_neg hv]
/-- What a pass over the nodes has made of the first of them. -/
structure FI (φ : BT → BT) (la : List Dec) (out : List Int) (l : List Dec) : Prop where
  ismk : Mk l
  len : l.length + 2 ≤ out.length
  at' : ∀ k z, out[k]? = some z → ∃ p : Nat, z = (p : Int) ∧ p < l.length + 2 ∧ trs l p = φ (trs la k)
theorem FI.nil {φ : BT → BT} {la : List Dec} {b0 b1 : Bool} (h0 : φ (.lf false) = .lf b0) (h1 : φ (.lf true) = .lf b1) : FI φ la [bif b0 then 1 else 0, bif b1 then 1 else 0] [] := by
  refine ⟨Mk.nil, by simp, fun k z hz => ?_⟩
  have e : ∀ b : Bool, trs [] (bif b then 1 else 0) = .lf b := fun b => by cases b <;> rfl
  rcases k with _ | _ | k
  · simp only [List.getElem?_cons_zero, Option.some.injEq] at hz
    refine ⟨bif b0 then 1 else 0, by rw [← hz]; cases b0 <;> rfl, by cases b0 <;> simp, ?_⟩
    rw [e, (trs_zero la).1, h0]
  · simp only [List.getElem?_cons_succ, List.getElem?_cons_zero, Option.some.injEq] at hz
    refine ⟨bif b1 then 1 else 0, by rw [← hz]; cases b1 <;> rfl, by cases b1 <;> simp, ?_⟩
    rw [e, (trs_zero la).2, h1]
  · simp at hz
theorem FI.step {φ : BT → BT} {la : List Dec} (hla : Mk la) {out : List Int} {l l' : List Dec} (h : FI φ la out l) {x : Dec} (hx : la[out.length - 2]? = some x) {p : Nat} (hm : Mk l') (hpre : ∃ r, l' = l ++ r) (hlen : l'.length ≤ l.length + 1) (hp : p < l'.length + 2) (ht : trs l' p = φ (.nd x.1 (trs la x.2.1) (trs la x.2.2))) : FI φ la (out ++ [(p : Int)]) l' := by
  have h2 : 2 ≤ out.length := by have := h.len; omega
  refine ⟨hm, by rw [List.length_append, List.length_singleton]; have := h.len; omega, fun k z hz => ?_⟩
  by_cases hk : k < out.length
  · rw [List.getElem?_append_left hk] at hz
    obtain ⟨q, e1, e2, e3⟩ := h.at' k z hz
    obtain ⟨r, rfl⟩ := hpre
    exact ⟨q, e1, by rw [List.length_append]; omega, by rw [trs_append e2]; exact e3⟩
  · have hlt := (List.getElem?_eq_some_iff.1 hz).1
    rw [List.length_append, List.length_singleton] at hlt
    have e : k = out.length := by omega
    subst e
    simp at hz
    refine ⟨p, hz.symm, hp, ?_⟩
    rw [ht]
    have := hla.at hx
    rw [show out.length - 2 + 2 = out.length by omega] at this
    rw [this]
theorem emptyT {t : BT} (h : t.ok 0) : ((canon t).2 == 0) = true ↔ ∀ c, t.ev c = false := by
  rw [beq_iff_eq]
  constructor
  · intro e c
    rw [(canon_lf h false).1 e]; rfl
  · intro e
    have : t = .lf false := BT.unique (n := 0) h trivial e
    rw [this]; rfl
/-- The configuration of a number. -/
def cfg (n : Nat) : Cf := fun i => n.testBit i
/-- Features on which a tree depends. -/
def supT (l : List Dec) : Nat := l.foldl (fun s x => s ||| 2 ^ x.1) 0
end Dg
namespace Dg
/-- A cube, of the features from m on. -/
def cubeB (on off m : Nat) (c : Cf) : Bool := (List.range 24).all fun j => decide (j < m) || ((!on.testBit j || c j) && (!off.testBit j || !c j))
theorem cubeB_end (on off : Nat) (c : Cf) : cubeB on off 24 c = true := by
  unfold cubeB
  rw [List.all_eq_true]
  intro j hj
  simp [List.mem_range.1 hj]
theorem cubeB_step {on off m : Nat} (hm : m < 24) (c : Cf) : cubeB on off m c = (((!on.testBit m || c m) && (!off.testBit m || !c m)) && cubeB on off (m + 1) c) := by
  unfold cubeB
  rw [Bool.eq_iff_iff]
  simp only [List.all_eq_true, Bool.and_eq_true, List.mem_range]
  constructor
  · intro h
    refine ⟨by have := h m hm; simpa using this, fun j hj => ?_⟩
    have := h j hj
    by_cases hjm : j < m
    · simp [show j < m + 1 by omega]
    · simpa [hjm, show (j < m + 1) = (j = m) from by simp; omega] using Or.inr (by simpa [hjm] using this)
  · rintro ⟨h1, h2⟩ j hj
    by_cases hjm : j = m
    · subst hjm; simpa using h1
    · have := h2 j hj
      by_cases hlt : j < m
      · simp [hlt]
      · have h3 : ¬ j < m + 1 := by omega
        simpa [hlt, h3] using this
theorem cubeB_mask {on off : Nat} (c : Cf) : cubeB (on &&& 16777215) (off &&& 16777215) 0 c = cubeB on off 0 c := by
  unfold cubeB
  have key : ∀ n j : Nat, j < 24 → (n &&& 16777215).testBit j = n.testBit j := fun n j hj => by
    rw [Nat.testBit_and, show (16777215 : Nat) = 2 ^ 24 - 1 by decide, Nat.testBit_two_pow_sub_one]
    simp [hj]
  rw [Bool.eq_iff_iff]
  simp only [List.all_eq_true, List.mem_range]
  constructor
  · intro h j hj
    have := h j hj
    rwa [key on j hj, key off j hj] at this
  · intro h j hj
    have := h j hj
    rwa [key on j hj, key off j hj]
theorem cubeB_clash {on off : Nat} (h : (on &&& 16777215) &&& (off &&& 16777215) ≠ 0) (c : Cf) : cubeB on off 0 c = false := by
  obtain ⟨j, hj⟩ : ∃ j, ((on &&& 16777215) &&& (off &&& 16777215)).testBit j = true := Nat.exists_testBit_of_ne_zero h
  rw [Nat.testBit_and, Nat.testBit_and, Nat.testBit_and, show (16777215 : Nat) = 2 ^ 24 - 1 by decide, Nat.testBit_two_pow_sub_one] at hj
  simp only [Bool.and_eq_true, decide_eq_true_eq] at hj
  obtain ⟨⟨h1, h2⟩, h3, _⟩ := hj
  unfold cubeB
  rw [List.all_eq_false]
  refine ⟨j, List.mem_range.2 h2, ?_⟩
  rw [h1, h3]
  cases c j <;> simp
end Dg
