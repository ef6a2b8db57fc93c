import Derived.Test.YtkgllhkhdjodeaaGreatEng5
set_option linter.unusedSimpArgs false
set_option linter.unusedVariables false
/-! Ordered reduced decision trees, and lists of nodes that share them. -/
namespace Dg
theorem snocInd {α : Type} {motive : List α → Prop} (nil : motive []) (append_singleton : ∀ l x, motive l → motive (l ++ [x])) (l : List α) : motive l := by
  have h : ∀ m : List α, motive m.reverse := by
    intro m
    induction m with
    | nil => exact nil
    | cons x m ih => rw [List.reverse_cons]; exact append_singleton _ _ ih
  have := h l.reverse
  rwa [List.reverse_reverse] at this
inductive BT where
  | lf (b : Bool)
  | nd (v : Nat) (lo hi : BT)
def BT.beq : BT → BT → Bool
  | .lf a, .lf b => a == b
  | .nd v a b, .nd u c d => v == u && BT.beq a c && BT.beq b d
  | _, _ => false
theorem BT.beq_iff : ∀ {s t : BT}, BT.beq s t = true ↔ s = t
  | .lf a, .lf b => by simp [BT.beq]
  | .nd v a b, .nd u c d => by
    simp only [BT.beq, Bool.and_eq_true, BT.beq_iff (s := a), BT.beq_iff (s := b), beq_iff_eq, BT.nd.injEq, and_assoc]
  | .lf a, .nd u c d => by simp [BT.beq]
  | .nd v a b, .lf c => by simp [BT.beq]
theorem BT.beq_self (t : BT) : BT.beq t t = true := BT.beq_iff.2 rfl
abbrev Cf := Nat → Bool
def BT.ev : BT → Cf → Bool
  | .lf b, _ => b
  | .nd v lo hi, c => bif c v then hi.ev c else lo.ev c
/-- Ordered from m on, reduced, below 24. -/
def BT.ok : Nat → BT → Prop
  | _, .lf _ => True
  | m, .nd v lo hi => m ≤ v ∧ v < 24 ∧ lo ≠ hi ∧ lo.ok (v + 1) ∧ hi.ok (v + 1)
theorem BT.ok_mono : ∀ {t : BT} {m n : Nat}, t.ok n → m ≤ n → t.ok m
  | .lf _, _, _, _, _ => trivial
  | .nd v lo hi, m, n, h, hm => ⟨Nat.le_trans hm h.1, h.2⟩
def BT.size : BT → Nat
  | .lf _ => 0
  | .nd _ lo hi => lo.size + hi.size + 1
theorem BT.size_le : ∀ {t : BT} {m : Nat}, t.ok m → m ≤ 24 → t.size + 1 ≤ 2 ^ (24 - m)
  | .lf _, m, _, _ => Nat.one_le_two_pow
  | .nd v lo hi, m, h, hm => by
    obtain ⟨h1, h2, _, h4, h5⟩ := h
    have a := BT.size_le h4 (by omega)
    have b := BT.size_le h5 (by omega)
    have e : 2 ^ (24 - v) = 2 ^ (24 - (v + 1)) + 2 ^ (24 - (v + 1)) := by
      rw [show 24 - v = (24 - (v + 1)) + 1 by omega, Nat.pow_succ]; omega
    have l : 2 ^ (24 - v) ≤ 2 ^ (24 - m) := Nat.pow_le_pow_right (by decide) (by omega)
    simp only [BT.size]; omega
/-- What is above m alone decides. -/
theorem BT.ev_above : ∀ {t : BT} {m : Nat} {c d : Cf}, t.ok m → (∀ i, m ≤ i → i < 24 → c i = d i) → t.ev c = t.ev d
  | .lf _, _, _, _, _, _ => rfl
  | .nd v lo hi, m, c, d, h, he => by
    obtain ⟨h1, h2, _, h4, h5⟩ := h
    have a := BT.ev_above h4 (fun i hi h24 => he i (by omega) h24)
    have b := BT.ev_above h5 (fun i hi h24 => he i (by omega) h24)
    simp only [BT.ev, he v h1 h2, a, b]
def upd (c : Cf) (v : Nat) (b : Bool) : Cf := fun i => if i = v then b else c i
theorem upd_self (c : Cf) (v : Nat) (b : Bool) : upd c v b v = b := if_pos rfl
theorem upd_ne (c : Cf) {v i : Nat} (b : Bool) (h : i ≠ v) : upd c v b i = c i := if_neg h
theorem upd_id (c : Cf) (v : Nat) : upd c v (c v) = c := by
  funext i
  by_cases h : i = v
  · rw [h, upd_self]
  · rw [upd_ne _ _ h]
theorem BT.ev_upd {t : BT} {m v : Nat} (h : t.ok m) (hv : v < m) (c : Cf) (b : Bool) : t.ev (upd c v b) = t.ev c :=
  BT.ev_above h (fun i hi _ => upd_ne _ _ (by omega))
theorem BT.ev_lo {v : Nat} {lo hi : BT} {m : Nat} (h : (BT.nd v lo hi).ok m) (c : Cf) : (BT.nd v lo hi).ev (upd c v false) = lo.ev c := by
  simp only [BT.ev, upd_self, cond_false]
  exact BT.ev_upd h.2.2.2.1 (Nat.lt_succ_self _) c false
theorem BT.ev_hi {v : Nat} {lo hi : BT} {m : Nat} (h : (BT.nd v lo hi).ok m) (c : Cf) : (BT.nd v lo hi).ev (upd c v true) = hi.ev c := by
  simp only [BT.ev, upd_self, cond_true]
  exact BT.ev_upd h.2.2.2.2 (Nat.lt_succ_self _) c true
/-- A reduced tree is the only one of its function. -/
theorem BT.unique : ∀ {s t : BT} {m n : Nat}, s.ok m → t.ok n → (∀ c, s.ev c = t.ev c) → s = t
  | .lf a, .lf b, _, _, _, _, he => by have := he (fun _ => false); simp only [BT.ev] at this; rw [this]
  | .lf a, .nd u c d, m, n, hs, ht, he => by
    refine absurd ?_ ht.2.2.1
    refine BT.unique ht.2.2.2.1 ht.2.2.2.2 (fun x => ?_)
    rw [← BT.ev_lo ht x, ← BT.ev_hi ht x, ← he, ← he]; rfl
  | .nd u c d, .lf a, m, n, hs, ht, he => by
    refine absurd ?_ hs.2.2.1
    refine BT.unique hs.2.2.2.1 hs.2.2.2.2 (fun x => ?_)
    rw [← BT.ev_lo hs x, ← BT.ev_hi hs x, he, he]; rfl
  | .nd v a b, .nd u c d, m, n, hs, ht, he => by
    rcases Nat.lt_trichotomy v u with h | h | h
    · refine absurd ?_ hs.2.2.1
      refine BT.unique hs.2.2.2.1 hs.2.2.2.2 (fun x => ?_)
      have ht' : (BT.nd u c d).ok (v + 1) := BT.ok_mono (m := v + 1) (n := u) ⟨Nat.le_refl _, ht.2⟩ h
      rw [← BT.ev_lo hs x, ← BT.ev_hi hs x, he, he, BT.ev_upd ht' (Nat.lt_succ_self _), BT.ev_upd ht' (Nat.lt_succ_self _)]
    · subst h
      have h1 : a = c := BT.unique hs.2.2.2.1 ht.2.2.2.1 (fun x => by rw [← BT.ev_lo hs x, ← BT.ev_lo ht x, he])
      have h2 : b = d := BT.unique hs.2.2.2.2 ht.2.2.2.2 (fun x => by rw [← BT.ev_hi hs x, ← BT.ev_hi ht x, he])
      rw [h1, h2]
    · refine absurd ?_ ht.2.2.1
      refine BT.unique ht.2.2.2.1 ht.2.2.2.2 (fun x => ?_)
      have hs' : (BT.nd v a b).ok (u + 1) := BT.ok_mono (m := u + 1) (n := v) ⟨Nat.le_refl _, hs.2⟩ h
      rw [← BT.ev_lo ht x, ← BT.ev_hi ht x, ← he, ← he, BT.ev_upd hs' (Nat.lt_succ_self _), BT.ev_upd hs' (Nat.lt_succ_self _)]
termination_by s t => s.size + t.size
decreasing_by all_goals simp only [BT.size]; omega
def mkN (v : Nat) (a b : BT) : BT := bif BT.beq a b then a else .nd v a b
theorem mkN_same (v : Nat) (a : BT) : mkN v a a = a := by simp [mkN, BT.beq_self]
theorem mkN_ne {v : Nat} {a b : BT} (h : a ≠ b) : mkN v a b = .nd v a b := by
  have : BT.beq a b = false := by
    cases hb : BT.beq a b with
    | true => exact absurd (BT.beq_iff.1 hb) h
    | false => rfl
  simp [mkN, this]
theorem mkN_ok {v m : Nat} {a b : BT} (hm : m ≤ v) (hv : v < 24) (ha : a.ok (v + 1)) (hb : b.ok (v + 1)) : (mkN v a b).ok m := by
  by_cases h : a = b
  · subst h; rw [mkN_same]; exact BT.ok_mono ha (by omega)
  · rw [mkN_ne h]; exact ⟨hm, hv, h, ha, hb⟩
theorem mkN_ev (v : Nat) (a b : BT) (c : Cf) : (mkN v a b).ev c = bif c v then b.ev c else a.ev c := by
  by_cases h : a = b
  · subst h; rw [mkN_same]; cases c v <;> rfl
  · rw [mkN_ne h]; rfl

/-! ### lists of nodes: variable, low place, high place -/
abbrev Dec := Nat × Nat × Nat
theorem getD_left {α : Type} {a b : List α} {d : α} {n : Nat} (h : n < a.length) : (a ++ b).getD n d = a.getD n d := by
  simp [List.getD, List.getElem?_append_left h]
theorem getD_right {α : Type} {a b : List α} {d : α} {n : Nat} (h : a.length ≤ n) : (a ++ b).getD n d = b.getD (n - a.length) d := by
  simp [List.getD, List.getElem?_append_right h]
def tabT (l : List Dec) : List BT := l.foldl (fun out x => out ++ [.nd x.1 (out.getD x.2.1 (.lf false)) (out.getD x.2.2 (.lf false))]) [.lf false, .lf true]
def trs (l : List Dec) (p : Nat) : BT := (tabT l).getD p (.lf false)
theorem tabT_snoc (l : List Dec) (x : Dec) : tabT (l ++ [x]) = tabT l ++ [.nd x.1 (trs l x.2.1) (trs l x.2.2)] := by
  simp only [tabT, trs, List.foldl_append, List.foldl_cons, List.foldl_nil]
theorem tabT_len : ∀ l : List Dec, (tabT l).length = l.length + 2 := by
  intro l
  induction l using snocInd with
  | nil => rfl
  | append_singleton l x ih => rw [tabT_snoc, List.length_append, ih]; simp
theorem trs_zero (l : List Dec) : trs l 0 = .lf false ∧ trs l 1 = .lf true := by
  induction l using snocInd with
  | nil => exact ⟨rfl, rfl⟩
  | append_singleton l x ih =>
    have := tabT_len l
    unfold trs at ih ⊢
    rw [tabT_snoc, getD_left (by omega), getD_left (by omega)]
    exact ih
theorem trs_snoc_old {l : List Dec} {x : Dec} {p : Nat} (h : p < l.length + 2) : trs (l ++ [x]) p = trs l p := by
  unfold trs; rw [tabT_snoc, getD_left (by rw [tabT_len]; exact h)]
theorem trs_snoc_new (l : List Dec) (x : Dec) : trs (l ++ [x]) (l.length + 2) = .nd x.1 (trs l x.2.1) (trs l x.2.2) := by
  conv => lhs; unfold trs
  rw [tabT_snoc, getD_right (by rw [tabT_len]; exact Nat.le_refl _), tabT_len]
  simp
theorem trs_append {l m : List Dec} {p : Nat} (h : p < l.length + 2) : trs (l ++ m) p = trs l p := by
  induction m using snocInd with
  | nil => rw [List.append_nil]
  | append_singleton m x ih => rw [← List.append_assoc, trs_snoc_old (by rw [List.length_append]; omega), ih]
/-- A maker's list. -/
structure Mk (l : List Dec) : Prop where
  kid : ∀ k x, l[k]? = some x → x.1 < 24 ∧ x.2.1 < k + 2 ∧ x.2.2 < k + 2 ∧ x.2.1 ≠ x.2.2
  nodup : l.Nodup
theorem Mk.nil : Mk [] := ⟨by simp, List.nodup_nil⟩
theorem Mk.init {l : List Dec} {x : Dec} (h : Mk (l ++ [x])) : Mk l :=
  ⟨fun k y hy => h.kid k y (by rw [List.getElem?_append_left (List.getElem?_eq_some_iff.1 hy).1]; exact hy), (List.nodup_append.1 h.nodup).1⟩
theorem Mk.last {l : List Dec} {x : Dec} (h : Mk (l ++ [x])) : x.1 < 24 ∧ x.2.1 < l.length + 2 ∧ x.2.2 < l.length + 2 ∧ x.2.1 ≠ x.2.2 := h.kid l.length x (by simp)
theorem Mk.snoc {l : List Dec} {x : Dec} (h : Mk l) (hx : x.1 < 24 ∧ x.2.1 < l.length + 2 ∧ x.2.2 < l.length + 2 ∧ x.2.1 ≠ x.2.2) (hn : x ∉ l) : Mk (l ++ [x]) := by
  refine ⟨fun k y hy => ?_, List.nodup_append.2 ⟨h.nodup, by simp, fun a ha b hb => ?_⟩⟩
  · by_cases hk : k < l.length
    · rw [List.getElem?_append_left hk] at hy; exact h.kid k y hy
    · have hlt := (List.getElem?_eq_some_iff.1 hy).1
      simp at hlt
      have e : k = l.length := by omega
      subst e
      simp at hy
      subst hy; exact hx
  · simp only [List.mem_singleton] at hb
    subst hb
    exact fun e => hn (e ▸ ha)
/-- The node at a place. -/
theorem Mk.at {l : List Dec} : Mk l → ∀ {k : Nat} {x : Dec}, l[k]? = some x → trs l (k + 2) = .nd x.1 (trs l x.2.1) (trs l x.2.2) := by
  induction l using snocInd with
  | nil => intro _ k x h; simp at h
  | append_singleton l y ih =>
    intro h k x hx
    by_cases hk : k < l.length
    · rw [List.getElem?_append_left hk] at hx
      have hb := h.init.kid k x hx
      rw [trs_snoc_old (by omega), trs_snoc_old (by omega), trs_snoc_old (by omega)]
      exact ih h.init hx
    · have hlt := (List.getElem?_eq_some_iff.1 hx).1
      simp at hlt
      have e : k = l.length := by omega
      subst e
      simp at hx
      subst hx
      have hb := h.last
      rw [trs_snoc_new, trs_snoc_old hb.2.1, trs_snoc_old hb.2.2.1]
theorem Mk.lf {l : List Dec} (h : Mk l) {p : Nat} {b : Bool} (hp : p < l.length + 2) (he : trs l p = .lf b) : p < 2 := by
  rcases Nat.lt_or_ge p 2 with h2 | h2
  · exact h2
  · obtain ⟨k, rfl⟩ : ∃ k, p = k + 2 := ⟨p - 2, by omega⟩
    have hk : k < l.length := by omega
    rw [h.at (List.getElem?_eq_getElem hk)] at he
    cases he
theorem Mk.inj {l : List Dec} : Mk l → ∀ {p q : Nat}, p < l.length + 2 → q < l.length + 2 → trs l p = trs l q → p = q := by
  induction l using snocInd with
  | nil =>
    intro _ p q hp hq he
    simp at hp hq
    have h0 := (trs_zero ([] : List Dec)).1
    have h1 := (trs_zero ([] : List Dec)).2
    rcases p with _ | _ | p <;> rcases q with _ | _ | q <;> first | rfl | omega | skip
    · rw [h0, h1] at he; simp at he
    · rw [h0, h1] at he; simp at he
  | append_singleton l y ih =>
    intro h p q hp hq he
    have hlast := h.last
    have key : ∀ p, p < l.length + 2 → trs (l ++ [y]) p ≠ trs (l ++ [y]) (l.length + 2) := by
      intro p hp he
      rw [trs_snoc_old hp, trs_snoc_new] at he
      rcases Nat.lt_or_ge p 2 with h2 | h2
      · rcases p with _ | _ | p
        · rw [(trs_zero l).1] at he; cases he
        · rw [(trs_zero l).2] at he; cases he
        · omega
      · obtain ⟨k, rfl⟩ : ∃ k, p = k + 2 := ⟨p - 2, by omega⟩
        have hk : k < l.length := by omega
        have hx := List.getElem?_eq_getElem hk
        have hb := h.init.kid k _ hx
        rw [h.init.at hx] at he
        simp only [BT.nd.injEq] at he
        obtain ⟨e1, e2, e3⟩ := he
        have e2' := ih h.init (by omega) (by omega) e2
        have e3' := ih h.init (by omega) (by omega) e3
        have e : l[k] = y := Prod.ext e1 (Prod.ext e2' e3')
        have := (List.nodup_append.1 h.nodup).2.2 l[k] (List.getElem_mem hk) y (by simp)
        exact this e
    simp only [List.length_append, List.length_cons, List.length_nil] at hp hq
    rcases Nat.lt_or_ge p (l.length + 2) with hp' | hp' <;> rcases Nat.lt_or_ge q (l.length + 2) with hq' | hq'
    · rw [trs_snoc_old hp', trs_snoc_old hq'] at he
      exact ih h.init hp' hq' he
    · have e : q = l.length + 2 := by omega
      subst e
      exact absurd he (key p hp')
    · have e : p = l.length + 2 := by omega
      subst e
      exact absurd he.symm (key q hq')
    · omega
/-! ### the list of a tree: the nodes in the order in which a walk leaves them -/
def look (out : List Dec) (t : BT) : Option Nat := (List.range (out.length + 2)).find? fun p => BT.beq (trs out p) t
theorem look_some {out : List Dec} {t : BT} {p : Nat} (h : look out t = some p) : p < out.length + 2 ∧ trs out p = t := by
  unfold look at h
  have h1 := List.mem_of_find?_eq_some h
  have h2 := List.find?_some h
  exact ⟨List.mem_range.1 h1, BT.beq_iff.1 h2⟩
theorem look_none {out : List Dec} {t : BT} (h : look out t = none) : ∀ p, p < out.length + 2 → trs out p ≠ t := by
  unfold look at h
  intro p hp he
  have := List.find?_eq_none.1 h p (List.mem_range.2 hp)
  simp [he, BT.beq_self] at this
theorem look_eq {out : List Dec} (hm : Mk out) {t : BT} {p : Nat} (hp : p < out.length + 2) (he : trs out p = t) : look out t = some p := by
  cases h : look out t with
  | none => exact absurd he (look_none h p hp)
  | some q =>
    obtain ⟨h1, h2⟩ := look_some h
    rw [hm.inj h1 hp (h2.trans he.symm)]
def visitT : BT → List Dec → List Dec × Nat
  | .lf b, out => (out, bif b then 1 else 0)
  | .nd v lo hi, out => match look out (.nd v lo hi) with
    | some p => (out, p)
    | none => ((visitT hi (visitT lo out).1).1 ++ [(v, (visitT lo out).2, (visitT hi (visitT lo out).1).2)], (visitT hi (visitT lo out).1).1.length + 2)
def canon (t : BT) : List Dec × Nat := visitT t []
theorem visitT_pre : ∀ (t : BT) (out : List Dec), ∃ r, (visitT t out).1 = out ++ r
  | .lf b, out => ⟨[], by simp [visitT]⟩
  | .nd v lo hi, out => by
    unfold visitT
    cases look out (.nd v lo hi) with
    | some p => exact ⟨[], by simp⟩
    | none =>
      obtain ⟨r1, h1⟩ := visitT_pre lo out
      obtain ⟨r2, h2⟩ := visitT_pre hi (visitT lo out).1
      exact ⟨r1 ++ r2 ++ [(v, (visitT lo out).2, (visitT hi (visitT lo out).1).2)], by simp only; rw [h2, h1]; simp⟩
theorem visitT_len (t : BT) (out : List Dec) : out.length ≤ (visitT t out).1.length := by
  obtain ⟨r, h⟩ := visitT_pre t out
  rw [h]; simp
theorem visitT_at : ∀ (t : BT) (out : List Dec), (visitT t out).2 < (visitT t out).1.length + 2 ∧ trs (visitT t out).1 (visitT t out).2 = t
  | .lf b, out => by
    cases b with
    | false => exact ⟨by simp [visitT], (trs_zero out).1⟩
    | true => exact ⟨by simp [visitT], (trs_zero out).2⟩
  | .nd v lo hi, out => by
    unfold visitT
    cases h : look out (.nd v lo hi) with
    | some p => exact look_some h
    | none =>
      obtain ⟨a1, a2⟩ := visitT_at lo out
      obtain ⟨b1, b2⟩ := visitT_at hi (visitT lo out).1
      obtain ⟨r, hr⟩ := visitT_pre hi (visitT lo out).1
      refine ⟨by simp, ?_⟩
      simp only
      rw [trs_snoc_new, b2]
      rw [hr, trs_append a1, a2]
/-- Whatever it adds is a part of the tree. -/
theorem visitT_new : ∀ (t : BT) (out : List Dec) (p : Nat), p < (visitT t out).1.length + 2 → p < out.length + 2 ∨ (trs (visitT t out).1 p).size ≤ t.size
  | .lf b, out, p, h => .inl h
  | .nd v lo hi, out, p, h => by
    unfold visitT at h ⊢
    cases hl : look out (.nd v lo hi) with
    | some q => rw [hl] at h; exact .inl h
    | none =>
      rw [hl] at h
      simp only [List.length_append, List.length_cons, List.length_nil] at h ⊢
      by_cases hp : p = (visitT hi (visitT lo out).1).1.length + 2
      · right
        subst hp
        obtain ⟨a1, a2⟩ := visitT_at lo out
        obtain ⟨b1, b2⟩ := visitT_at hi (visitT lo out).1
        obtain ⟨r, hr⟩ := visitT_pre hi (visitT lo out).1
        rw [trs_snoc_new, b2]
        have : trs (visitT hi (visitT lo out).1).1 (visitT lo out).2 = lo := by rw [hr, trs_append a1, a2]
        simp only [this]
        exact Nat.le_refl _
      · have hp' : p < (visitT hi (visitT lo out).1).1.length + 2 := by omega
        rw [trs_snoc_old hp']
        rcases visitT_new hi (visitT lo out).1 p hp' with h2 | h2
        · rcases visitT_new lo out p h2 with h3 | h3
          · exact .inl h3
          · obtain ⟨r, hr⟩ := visitT_pre hi (visitT lo out).1
            rw [hr, trs_append h2]
            right; simp only [BT.size]; omega
        · right; simp only [BT.size]; omega
theorem visitT_fresh {v : Nat} {lo hi : BT} {out : List Dec} (h : look out (.nd v lo hi) = none) : ∀ p, p < (visitT hi (visitT lo out).1).1.length + 2 → trs (visitT hi (visitT lo out).1).1 p ≠ .nd v lo hi := by
  intro p hp he
  rcases visitT_new hi (visitT lo out).1 p hp with h2 | h2
  · rcases visitT_new lo out p h2 with h3 | h3
    · obtain ⟨r1, h1⟩ := visitT_pre lo out
      obtain ⟨r2, h4⟩ := visitT_pre hi (visitT lo out).1
      rw [h4, trs_append h2, h1, trs_append h3] at he
      exact look_none h p h3 he
    · obtain ⟨r, hr⟩ := visitT_pre hi (visitT lo out).1
      rw [hr, trs_append h2] at he
      rw [he] at h3
      simp only [BT.size] at h3; omega
  · rw [he] at h2
    simp only [BT.size] at h2; omega
theorem visitT_mk : ∀ {t : BT} {m : Nat} {out : List Dec}, t.ok m → Mk out → Mk (visitT t out).1
  | .lf b, _, out, _, h => h
  | .nd v lo hi, m, out, ht, h => by
    unfold visitT
    cases hl : look out (.nd v lo hi) with
    | some q => exact h
    | none =>
      have h1 := visitT_mk ht.2.2.2.1 h
      have h2 := visitT_mk ht.2.2.2.2 h1
      obtain ⟨a1, a2⟩ := visitT_at lo out
      obtain ⟨b1, b2⟩ := visitT_at hi (visitT lo out).1
      obtain ⟨r, hr⟩ := visitT_pre hi (visitT lo out).1
      have a2' : trs (visitT hi (visitT lo out).1).1 (visitT lo out).2 = lo := by rw [hr, trs_append a1, a2]
      have a1' : (visitT lo out).2 < (visitT hi (visitT lo out).1).1.length + 2 := Nat.lt_of_lt_of_le a1 (by have := visitT_len hi (visitT lo out).1; omega)
      refine h2.snoc ⟨ht.2.1, a1', b1, fun e => ?_⟩ (fun hm => ?_)
      · simp only at e
        rw [e, b2] at a2'
        exact ht.2.2.1 a2'.symm
      · obtain ⟨k, hk⟩ := List.getElem?_of_mem hm
        have := h2.at hk
        simp only at this
        rw [a2', b2] at this
        have hlt := (List.getElem?_eq_some_iff.1 hk).1
        exact visitT_fresh hl (k + 2) (by omega) this
theorem visitT_grow : ∀ (t : BT) (out : List Dec), (visitT t out).1.length ≤ out.length + t.size
  | .lf b, out => Nat.le_refl _
  | .nd v lo hi, out => by
    unfold visitT
    cases look out (.nd v lo hi) with
    | some q => simp
    | none =>
      have h1 := visitT_grow lo out
      have h2 := visitT_grow hi (visitT lo out).1
      simp only [List.length_append, List.length_cons, List.length_nil, BT.size]; omega
theorem canon_mk {t : BT} {m : Nat} (h : t.ok m) : Mk (canon t).1 := visitT_mk h Mk.nil
theorem canon_at (t : BT) : (canon t).2 < (canon t).1.length + 2 ∧ trs (canon t).1 (canon t).2 = t := visitT_at t []
theorem canon_len {t : BT} (h : t.ok 0) : (canon t).1.length < 16777216 := by
  have h1 := visitT_grow t []
  have h2 := BT.size_le h (by decide)
  have h3 : (canon t).1.length ≤ t.size := by simpa [canon] using h1
  have : (2 : Nat) ^ (24 - 0) = 16777216 := by decide
  omega
theorem canon_inj {s t : BT} (h : canon s = canon t) : s = t := by
  rw [← (canon_at s).2, ← (canon_at t).2, h]
theorem canon_lf {t : BT} (h : t.ok 0) (b : Bool) : (canon t).2 = (bif b then 1 else 0) ↔ t = .lf b := by
  constructor
  · intro e
    rw [← (canon_at t).2, e]
    cases b
    · exact (trs_zero _).1
    · exact (trs_zero _).2
  · rintro rfl; rfl
/-- The parts of an ordered tree are ordered. -/
theorem Mk.trs_ok {l : List Dec} (h : Mk l) {p m : Nat} (hp : p < l.length + 2) (ho : (trs l p).ok m) (h2 : 2 ≤ p) : ∃ x, l[p - 2]? = some x ∧ m ≤ x.1 ∧ (trs l x.2.1).ok (x.1 + 1) ∧ (trs l x.2.2).ok (x.1 + 1) := by
  obtain ⟨k, rfl⟩ : ∃ k, p = k + 2 := ⟨p - 2, by omega⟩
  have hk : k < l.length := by omega
  refine ⟨l[k], List.getElem?_eq_getElem hk, ?_⟩
  rw [h.at (List.getElem?_eq_getElem hk)] at ho
  exact ⟨ho.1, ho.2.2.2.1, ho.2.2.2.2⟩
end Dg
