import Derived.Test.YtbippghgkbapnaaPaBack3
set_option linter.unusedSimpArgs false
set_option linter.unusedVariables false
namespace Fm
open Go Go.Eng
/-! ### how great a tree is -/
mutual
def cntT : Nat → Int → Tree → Int
  | lv, left, .mk _ name kids => if lv = 0 ∨ left - 1 < 0 ∨ 100 < name.length then -1 else cntL (lv - 1) (left - 1) kids
def cntL : Nat → Int → List Tree → Int
  | _, left, [] => left
  | lv, left, k :: ks => if left < 0 then left else cntL lv (cntT lv left k) ks
end
mutual
theorem cntT_le : ∀ (lv : Nat) (left : Int) (t : Tree), 0 ≤ left → cntT lv left t ≤ left - 1 ∧ -1 ≤ cntT lv left t
  | lv, left, .mk _ name kids, h => by
    simp only [cntT]
    split
    · omega
    · rename_i hc
      exact cntL_le (lv - 1) (left - 1) kids (by omega)
theorem cntL_le : ∀ (lv : Nat) (left : Int) (ts : List Tree), -1 ≤ left → cntL lv left ts ≤ left ∧ -1 ≤ cntL lv left ts
  | lv, left, [], h => by simp only [cntL]; omega
  | lv, left, k :: ks, h => by
    simp only [cntL]
    split
    · omega
    · have h1 := cntT_le lv left k (by omega)
      have h2 := cntL_le lv (cntT lv left k) ks h1.2
      omega
end
/-- Names of at most so many bytes. -/
def shortN (t : Tree) : Bool := decide (t.name.length ≤ 100)
mutual
theorem cntT_ok : ∀ (lv : Nat) (left : Int) (t : Tree), 0 ≤ cntT lv left t → cntT lv left t = left - (rowT t).length ∧ levT t ≤ lv ∧ (rowT t).all shortN = true
  | lv, left, .mk op name kids, h => by
    simp only [cntT] at h ⊢
    split at h
    · omega
    · rename_i hc
      rw [if_neg hc]
      obtain ⟨h1, h2, h3⟩ := cntL_ok (lv - 1) (left - 1) kids h
      simp only [rowT, levT, List.length_cons, List.all_cons, Bool.and_eq_true, h3, and_true]
      refine ⟨by rw [h1]; omega, ?_, by show decide (name.length ≤ 100) = true; simp; omega⟩
      rcases h2 with h2 | h2
      · subst h2; simp only [levL]; omega
      · omega
theorem cntL_ok : ∀ (lv : Nat) (left : Int) (ts : List Tree), 0 ≤ cntL lv left ts → cntL lv left ts = left - (rowL ts).length ∧ (ts = [] ∨ levL ts ≤ lv) ∧ (rowL ts).all shortN = true
  | lv, left, [], h => by simp [cntL, rowL]
  | lv, left, k :: ks, h => by
    simp only [cntL] at h ⊢
    split at h
    · omega
    · rename_i hc
      rw [if_neg hc]
      obtain ⟨h1, h2, h3⟩ := cntL_ok lv (cntT lv left k) ks h
      have h4 : 0 ≤ cntT lv left k := by omega
      obtain ⟨h5, h6, h7⟩ := cntT_ok lv left k h4
      simp only [rowL, levL, List.length_append, List.all_append, h3, h7, Bool.and_self, and_true]
      refine ⟨by rw [h1, h5]; omega, .inr ?_⟩
      rcases h2 with h2 | h2
      · subst h2; simp only [levL]; omega
      · omega
end
theorem cntT_mk (lv : Nat) (left : Int) (t : Tree) : cntT lv left t = if lv = 0 ∨ left - 1 < 0 ∨ 100 < t.name.length then -1 else cntL (lv - 1) (left - 1) t.kids := by
  obtain ⟨op, name, kids⟩ := t
  simp only [cntT]; rfl
theorem cntL_drop {lv : Nat} {left : Int} {ts : List Tree} {i : Nat} {k : Tree} (h : ts[i]? = some k) (hl : ¬ left < 0) : cntL lv left (ts.drop i) = cntL lv (cntT lv left k) (ts.drop (i + 1)) := by
  obtain ⟨l1, e1⟩ := List.getElem?_eq_some_iff.1 h
  rw [List.drop_eq_getElem_cons l1, e1, cntL, if_neg hl]
theorem cntL_stop {lv : Nat} {left : Int} {ts : List Tree} (hl : left < 0) : cntL lv left ts = left := by
  cases ts with
  | nil => rfl
  | cons k ks => rw [cntL, if_pos hl]
/-- Great: more than 1,200 nodes, or more levels, or a long name. -/
def greatB (t : Tree) (lv : Nat) : Bool := decide (cntT lv 1200 t < 0)
theorem great_no {t : Tree} {lv : Nat} (h : greatB t lv = false) : (rowT t).length ≤ 1200 ∧ levT t ≤ lv ∧ (rowT t).all shortN = true := by
  simp only [greatB, decide_eq_false_iff_not] at h
  obtain ⟨h1, h2, h3⟩ := cntT_ok lv 1200 t (by omega)
  exact ⟨by omega, h2, h3⟩
/-! ### the reference's text -/
def lineOf (op : Int) : Int := if op = 5 then 2 else if op = 7 then 3 else if op = 6 then 4 else if op = 8 then 5 else if op = 9 then 6 else if op = 10 then 7 else 1
def signR (op i : Int) : List UInt8 :=
  if op = 5 then [32, 38, 32] else if op = 7 then [32, 94, 32] else if op = 6 then [32, 124, 32] else if op = 8 then [32, 61, 62, 32] else if op = 9 then [32, 60, 61, 62, 32] else if i = 1 then [32, 63, 32] else [32, 58, 32]
def mostOf (op i : Int) : Int := if (op = 8 ∧ i = 1) ∨ (op = 10 ∧ 0 < i) then lineOf op else if op = 4 then 1 else lineOf op - 1
def headR (op i : Int) : List UInt8 := (if op = 4 then [33] else []) ++ (if 0 < i then signR op i else [])
mutual
def textT : Tree → List UInt8
  | .mk op name kids => if op = 1 then [48] else if op = 2 then [49] else if op = 3 then name else textL op 0 kids
def textL : Int → Int → List Tree → List UInt8
  | _, _, [] => []
  | op, i, k :: ks => headR op i ++ (if mostOf op i < lineOf k.op then [40] ++ textT k ++ [41] else textT k) ++ textL op (i + 1) ks
end
def kidR (op i : Int) (k : Tree) : List UInt8 := if mostOf op i < lineOf k.op then [40] ++ textT k ++ [41] else textT k
/-- What is said of the first kids. -/
def textTo (op : Int) : Nat → List Tree → List UInt8
  | 0, _ => []
  | i + 1, ts => textTo op i ts ++ (match ts[i]? with | some k => headR op i ++ kidR op i k | none => [])
theorem right_op {t : Tree} (h : rightB t = true) : 1 ≤ t.op ∧ t.op ≤ 10 := by
  have hk : (kidsOf t.op).2 = true := by
    unfold rightB kidsBad at h
    cases hh : (kidsOf t.op).2 with
    | true => rfl
    | false => rw [hh] at h; simp at h
  unfold kidsOf at hk
  split at hk
  · omega
  split at hk
  · omega
  split at hk
  · omega
  split at hk
  · omega
  split at hk
  · omega
  · cases hk
theorem right_two {t : Tree} (h : rightB t = true) (h4 : t.op = 8) : t.kids.length = 2 := by
  unfold rightB kidsBad kidsOf at h
  rw [h4] at h
  simp at h
  omega
theorem right_not {t : Tree} (h : rightB t = true) (h4 : t.op = 4) : t.kids.length = 1 := by
  unfold rightB kidsBad kidsOf at h
  rw [h4] at h
  simp at h
  omega
mutual
theorem put_text : ∀ t : Tree, (rowT t).all rightB = true → putS t = textT t
  | .mk op name kids, h => by
    simp only [rowT, List.all_cons, Bool.and_eq_true] at h
    have hr := h.1
    simp only [putS, textT]
    by_cases h1 : op = 1
    · rw [if_pos h1, if_pos h1]
    rw [if_neg h1, if_neg h1]
    by_cases h2 : op = 2
    · rw [if_pos h2, if_pos h2]
    rw [if_neg h2, if_neg h2]
    by_cases h3 : op = 3
    · rw [if_pos h3, if_pos h3]
    rw [if_neg h3, if_neg h3]
    have hop10 := right_op hr
    simp only [Tree.op] at hop10
    have hops : op = 4 ∨ op = 5 ∨ op = 6 ∨ op = 7 ∨ op = 8 ∨ op = 9 ∨ op = 10 := by omega
    by_cases h4 : op = 4
    · rw [if_pos h4]
      subst h4
      have hl1 : kids.length = 1 := right_not hr rfl
      match kids, h.2, hl1 with
      | [], _, hl => simp at hl
      | k :: [], hk, _ =>
        simp only [rowL, List.append_nil] at hk
        have ih := put_text k hk
        have hop := op_range k hk
        simp only [putN, textL, headR, mostOf, lineOf, List.append_nil]
        rw [ih]
        by_cases hle : k.op ≤ 4
        · rw [if_pos hle]
          have : lineOf k.op = 1 := by unfold lineOf; repeat (rw [if_neg (by omega)])
          simp only [lineOf] at this
          rw [this]; simp
        · rw [if_neg hle]
          have : 1 < lineOf k.op := by
            unfold lineOf
            rcases (by omega : k.op = 5 ∨ k.op = 6 ∨ k.op = 7 ∨ k.op = 8 ∨ k.op = 9 ∨ k.op = 10) with h | h | h | h | h | h <;> rw [h] <;> decide
          simp only [lineOf] at this
          simp [this]
      | _ :: _ :: _, _, hl => simp at hl
    · rw [if_neg h4]
      exact put_textK op (by omega) 0 (by omega) kids (fun h0 => by have := right_two hr (show (Tree.mk op name kids).op = 8 from h0); simp only [Tree.kids] at this; omega) h.2
theorem op_range : ∀ t : Tree, (rowT t).all rightB = true → 1 ≤ t.op ∧ t.op ≤ 10
  | .mk op name kids, h => by
    simp only [rowT, List.all_cons, Bool.and_eq_true] at h
    exact right_op h.1
theorem put_textK : ∀ (op : Int), 5 ≤ op ∧ op ≤ 10 → ∀ (i : Int), 0 ≤ i → ∀ ts : List Tree, (op = 8 → i + ts.length ≤ 2) → (rowL ts).all rightB = true → putK op i ts = textL op i ts
  | op, hop, i, hi, [], h8, h => rfl
  | op, hop, i, hi, k :: ks, h8, h => by
    simp only [rowL, List.all_append, Bool.and_eq_true] at h
    have ih := put_text k h.1
    have ih2 := put_textK op hop (i + 1) (by omega) ks (fun h0 => by have := h8 h0; simp at this; omega) h.2
    have hk := op_range k h.1
    simp only [putK, textL, ih, ih2]
    have e0 : headR op i = if 0 < i then signR op i else [] := by
      unfold headR
      rw [if_neg (show ¬ op = 4 by omega)]; rfl
    have e1 : (if 0 < i then [32] ++ signS op i ++ [32] else []) = headR op i := by
      rw [e0]
      by_cases h0 : 0 < i
      · rw [if_pos h0, if_pos h0]
        unfold signS signR
        rcases (by omega : op = 5 ∨ op = 6 ∨ op = 7 ∨ op = 8 ∨ op = 9 ∨ op = 10) with h | h | h | h | h | h <;> subst h <;> simp
        split <;> rfl
      · rw [if_neg h0, if_neg h0]
    rw [e1]
    have e2 : ((bareL.take (bareN op i)).contains k.op || decide (k.op ≤ 4)) = !decide (mostOf op i < lineOf k.op) := by
      obtain ⟨j, hj, h82, hb, hm⟩ : ∃ j, j ∈ [0, 1, 2] ∧ (op = 8 → j ≠ 2) ∧ bareN op i = bareN op j ∧ mostOf op i = mostOf op j := by
        by_cases h0 : i = 0
        · exact ⟨0, by simp, by simp, by rw [h0], by rw [h0]⟩
        by_cases h1 : i = 1
        · exact ⟨1, by simp, by simp, by rw [h1], by rw [h1]⟩
        refine ⟨2, by simp, fun h0 => by have := h8 h0; simp at this; omega, ?_, ?_⟩
        · unfold bareN; simp [h0]
        · unfold mostOf; simp [h1, show 0 < i by omega]
      rw [hb, hm]
      have key : ∀ o ∈ [5, 6, 7, 8, 9, 10], ∀ j ∈ [0, 1, 2], (o = 8 → j ≠ 2) → ∀ p ∈ [1, 2, 3, 4, 5, 6, 7, 8, 9, 10], ((bareL.take (bareN o j)).contains p || decide (p ≤ 4)) = !decide (mostOf o j < lineOf p) := by decide
      exact key op (by simp; omega) j hj h82 k.op (by simp; omega)
    rw [e2]
    by_cases h5 : mostOf op i < lineOf k.op
    · simp [h5]
    · simp [h5]
end
end Fm

namespace Fm
open Go Go.Eng
/-! ### what is printed is parsed -/
theorem bindP_mono {r r' : Option PR} {f g : Tree → Nat → List UInt8 → Option PR} {q : PR} (h : bindP r f = some q) (hr : ∀ p, r = some p → r' = some p) (hf : ∀ t a x p, f t a x = some p → g t a x = some p) : bindP r' g = some q := by
  rcases bindP_ok h with ⟨a, h1, h2⟩ | ⟨t, a, x, h1, h2⟩
  · rw [hr _ h1, h2]; rfl
  · rw [hr _ h1]; exact hf _ _ _ _ h2
theorem bindT_mono {r : TR} {no no' : Option PR} {f g : Nat → List UInt8 → Option PR} {q : PR} (h : bindT r no f = some q) (hn : ∀ p, no = some p → no' = some p) (hf : ∀ a x p, f a x = some p → g a x = some p) : bindT r no' g = some q := by
  rcases bindT_ok h with ⟨h1, h2⟩ | ⟨a, x, h1, h2⟩ | ⟨a, h1, h2⟩
  · rw [h1]; exact hn _ h2
  · rw [h1]; exact hf _ _ _ h2
  · rw [h1, h2]; rfl
theorem parse_succ {text : List UInt8} : ∀ (n : Nat) (nt : NT) (a : Nat) (x : List UInt8) (q : PR), parse text n nt a x = some q → parse text (n + 1) nt a x = some q := by
  intro n
  induction n with
  | zero => intro nt a x q h; simp [parse] at h
  | succ n ih =>
    intro nt a x q h
    cases nt with
    | choice =>
      rw [parse] at h ⊢
      exact bindP_mono h (ih _ _ _) fun t a x p h => bindT_mono h (fun _ h => h) fun a x p h => bindP_mono h (ih _ _ _) fun t a x p h => bindT_mono h (fun _ h => h) fun a x p h => bindP_mono h (ih _ _ _) fun _ _ _ _ h => h
    | same =>
      rw [parse] at h ⊢
      exact bindP_mono h (ih _ _ _) fun t a x p h => bindT_mono h (fun _ h => h) fun a x p h => bindP_mono h (ih _ _ _) fun _ _ _ _ h => h
    | implies =>
      rw [parse] at h ⊢
      exact bindP_mono h (ih _ _ _) fun t a x p h => bindT_mono h (fun _ h => h) fun a x p h => bindP_mono h (ih _ _ _) fun _ _ _ _ h => h
    | row i =>
      rw [parse] at h ⊢
      split at h
      · rename_i hi; rw [if_pos hi]; exact ih _ _ _ _ h
      · rename_i hi; rw [if_neg hi]; exact bindP_mono h (ih _ _ _) fun t a x p h => ih _ _ _ _ h
    | rest i acc =>
      rw [parse] at h ⊢
      exact bindT_mono h (fun _ h => h) fun a x p h => bindP_mono h (ih _ _ _) fun t a x p h => ih _ _ _ _ h
    | not =>
      rw [parse] at h ⊢
      exact bindT_mono h (ih _ _ _) fun a x p h => bindP_mono h (ih _ _ _) fun _ _ _ _ h => h
    | least =>
      rw [parse] at h ⊢
      exact bindT_mono h (fun _ h => h) fun a x p h => bindP_mono h (ih _ _ _) fun _ _ _ _ h => h
theorem parse_mono {text : List UInt8} {n m : Nat} {nt : NT} {a : Nat} {x : List UInt8} {q : PR} (h : parse text n nt a x = some q) (hm : n ≤ m) : parse text m nt a x = some q := by
  obtain ⟨k, rfl⟩ := Nat.exists_eq_add_of_le hm
  clear hm
  induction k with
  | zero => exact h
  | succ k ih => exact parse_succ _ _ _ _ _ ih
/-- The token at a place, behind blanks. -/
def nextP (text : List UInt8) (p : Nat) : NR :=
  match tok (text.drop (p + blanks (text.drop p))) with
  | some x => .ok (p + blanks (text.drop p)) x
  | none => .bad (p + blanks (text.drop p))
theorem next_P (text : List UInt8) (a : Nat) (w : List UInt8) : next text a w = nextP text (a + w.length) := rfl
theorem nextP_at {text y v : List UInt8} {p : Nat} (hd : text.drop p = v) (hb : blanks v = 0) (ht : tok v = some y) : nextP text p = .ok p y := by
  unfold nextP
  rw [hd, hb, Nat.add_zero, hd, ht]
theorem nextP_blank {text v : List UInt8} {p : Nat} (hd : text.drop p = 32 :: v) : nextP text p = nextP text (p + 1) := by
  have hd1 : text.drop (p + 1) = v := by rw [← List.drop_drop, hd]; rfl
  unfold nextP
  rw [hd, hd1]
  have : p + blanks (32 :: v) = p + 1 + blanks v := by simp only [blanks, if_true]; omega
  rw [this]
def okv (v : List UInt8) : Prop := ∀ c, v.head? = some c → inWordB c = false
/-- A sign at the head. -/
theorem tok_of_sign {s v : List UInt8} (hs : s ∈ signs) : tok (s ++ v) = some s ∧ blanks (s ++ v) = 0 := by
  have h1 : s = [60, 61, 62] ∨ s = [61, 62] ∨ s = [33] ∨ s = [38] ∨ s = [94] ∨ s = [124] ∨ s = [63] ∨ s = [58] ∨ s = [40] ∨ s = [41] := by
    simpa [signs] using hs
  rcases h1 with h | h | h | h | h | h | h | h | h | h <;> subst h <;> exact ⟨by simp [tok, signs, pre, List.find?], by simp [blanks]⟩
theorem word_head {c : UInt8} (h : inWordB c = true) : c ≠ 32 ∧ c ≠ 60 ∧ c ≠ 61 ∧ c ≠ 33 ∧ c ≠ 38 ∧ c ≠ 94 ∧ c ≠ 124 ∧ c ≠ 63 ∧ c ≠ 58 ∧ c ≠ 40 ∧ c ≠ 41 := by
  refine ⟨?_, ?_, ?_, ?_, ?_, ?_, ?_, ?_, ?_, ?_, ?_⟩ <;> (intro hc; subst hc; exact absurd h (by decide))
theorem tok_of_word {w v : List UInt8} (hw : w ≠ []) (hall : w.all inWordB = true) (hv : okv v) (hk : w = [48] ∨ w = [49] ∨ isNameB w = true) : tok (w ++ v) = some w ∧ blanks (w ++ v) = 0 := by
  cases w with
  | nil => exact absurd rfl hw
  | cons c r =>
    simp only [List.all_cons, Bool.and_eq_true] at hall
    obtain ⟨h0, h1, h2, h3, h4, h5, h6, h7, h8, h9, h10⟩ := word_head hall.1
    have hword : word (c :: r ++ v) = c :: r := by
      unfold word
      have hr : ∀ (l : List UInt8), l.all inWordB = true → (l ++ v).takeWhile inWordB = l := by
        intro l
        induction l with
        | nil =>
          intro _
          cases v with
          | nil => rfl
          | cons d v => rw [List.nil_append, List.takeWhile_cons_of_neg]; rw [hv d rfl]; simp
        | cons d l ih =>
          intro h
          simp only [List.all_cons, Bool.and_eq_true] at h
          rw [List.cons_append, List.takeWhile_cons_of_pos h.1, ih h.2]
      exact hr (c :: r) (by simp [hall.1, hall.2])
    refine ⟨?_, by simp [blanks, h0]⟩
    unfold tok
    rw [if_neg (by simp), hword]
    have hn : signs.find? (pre (c :: r ++ v)) = none := by
      rw [List.find?_eq_none]
      intro s hs
      have h1 : s = [60, 61, 62] ∨ s = [61, 62] ∨ s = [33] ∨ s = [38] ∨ s = [94] ∨ s = [124] ∨ s = [63] ∨ s = [58] ∨ s = [40] ∨ s = [41] := by
        simpa [signs] using hs
      rcases h1 with h | h | h | h | h | h | h | h | h | h <;> subst h <;> simp [pre, *]
    rw [hn]
    simp only
    rw [if_pos hk]
/-! levels -/
def opTok : Nat → List UInt8
  | 2 => [38] | 3 => [94] | 4 => [124] | 5 => [61, 62] | 6 => [60, 61, 62] | _ => [63]
def ntOf : Nat → NT
  | 1 => .not | 2 => .row 2 | 3 => .row 1 | 4 => .row 0 | 5 => .implies | 6 => .same | _ => .choice
def follow (l : Nat) (x : List UInt8) : Prop := ∀ m, 2 ≤ m → m ≤ l → x ≠ opTok m
theorem takes_no {text x s : List UInt8} {a : Nat} (h : x ≠ s) : takes text a x s = .no := by unfold takes; rw [if_neg h]
theorem takes_yes {text x : List UInt8} {a a' : Nat} {x' : List UInt8} (h : nextP text (a + x.length) = .ok a' x') : takes text a x x = .yes a' x' := by
  unfold takes; rw [if_pos rfl, next_P, h]
theorem climb {text : List UInt8} {l n a a' : Nat} {x x' : List UInt8} {t : Tree} (h1 : 1 ≤ l) (h7 : l < 7) (h : parse text n (ntOf l) a x = some (.ok t a' x')) (hx : x' ≠ opTok (l + 1)) : ∃ n, parse text n (ntOf (l + 1)) a x = some (.ok t a' x') := by
  have row : ∀ i, i ≤ 2 → parse text (n + 1) (.row (i + 1)) a x = some (.ok t a' x') → x' ≠ rowSign i → parse text (n + 2) (.row i) a x = some (.ok t a' x') := fun i hi hh hs => by
    rw [parse, if_neg (by omega), hh]
    simp only [bindP]
    rw [parse, takes_no hs]; rfl
  rcases (by omega : l = 1 ∨ l = 2 ∨ l = 3 ∨ l = 4 ∨ l = 5 ∨ l = 6) with e | e | e | e | e | e <;> subst e
  · exact ⟨_, row 2 (by omega) (by rw [parse, if_pos (by omega)]; exact h) hx⟩
  · exact ⟨_, row 1 (by omega) (parse_succ _ _ _ _ _ h) hx⟩
  · exact ⟨_, row 0 (by omega) (parse_succ _ _ _ _ _ h) hx⟩
  · refine ⟨n + 1, ?_⟩
    show parse text (n + 1) .implies a x = _
    rw [parse, show parse text n (.row 0) a x = _ from h]
    simp only [bindP]
    rw [takes_no (show x' ≠ [61, 62] from hx)]; rfl
  · refine ⟨n + 1, ?_⟩
    show parse text (n + 1) .same a x = _
    rw [parse, show parse text n .implies a x = _ from h]
    simp only [bindP]
    rw [takes_no (show x' ≠ [60, 61, 62] from hx)]; rfl
  · refine ⟨n + 1, ?_⟩
    show parse text (n + 1) .choice a x = _
    rw [parse, show parse text n .same a x = _ from h]
    simp only [bindP]
    rw [takes_no (show x' ≠ [63] from hx)]; rfl
theorem climbs {text : List UInt8} {l a a' : Nat} {x x' : List UInt8} {t : Tree} (h1 : 1 ≤ l) (h : ∃ n, parse text n (ntOf l) a x = some (.ok t a' x')) : ∀ m, l + m ≤ 7 → follow (l + m) x' → ∃ n, parse text n (ntOf (l + m)) a x = some (.ok t a' x')
  | 0, _, _ => h
  | m + 1, hm, hf => by
    obtain ⟨n, hn⟩ := climbs h1 h m (by omega) (fun k h2 h3 => hf k h2 (by omega))
    exact climb (l := l + m) (by omega) (by omega) hn (hf (l + m + 1) (by omega) (by omega))
theorem climbs' {text : List UInt8} {l m a a' : Nat} {x x' : List UInt8} {t : Tree} (h1 : 1 ≤ l) (h : ∃ n, parse text n (ntOf l) a x = some (.ok t a' x')) (hm : l ≤ m) (h7 : m ≤ 7) (hf : follow m x') : ∃ n, parse text n (ntOf m) a x = some (.ok t a' x') := by
  obtain ⟨k, rfl⟩ := Nat.exists_eq_add_of_le hm
  exact climbs h1 h k h7 hf
/-- A text that stands at a place is that of t: a token begins there, and at every line of the grammar from l on it is parsed to t. -/
def PutOk (s : List UInt8) (t : Tree) (l : Nat) : Prop := ∀ (text v : List UInt8) (p : Nat), text.drop p = s ++ v → okv v →
  ∃ y, nextP text p = .ok p y ∧ y ≠ [] ∧ ∀ m a' x', l ≤ m → m ≤ 7 → nextP text (p + s.length) = .ok a' x' → follow m x' → ∃ n, parse text n (ntOf m) p y = some (.ok t a' x')
theorem okv_sign {s v : List UInt8} (hs : s ∈ signs) : okv (s ++ v) := by
  intro c hc
  have h1 : s = [60, 61, 62] ∨ s = [61, 62] ∨ s = [33] ∨ s = [38] ∨ s = [94] ∨ s = [124] ∨ s = [63] ∨ s = [58] ∨ s = [40] ∨ s = [41] := by
    simpa [signs] using hs
  rcases h1 with h | h | h | h | h | h | h | h | h | h <;> subst h <;> (simp at hc; subst hc; decide)
theorem okv_blank {v : List UInt8} : okv (32 :: v) := by
  intro c hc; simp at hc; subst hc; decide
theorem drop_add {text s v : List UInt8} {p : Nat} (h : text.drop p = s ++ v) : text.drop (p + s.length) = v := by
  rw [← List.drop_drop, h]; simp
/-- In ( ). -/
theorem put_paren {s : List UInt8} {t : Tree} (h : PutOk s t 7) : PutOk ([40] ++ s ++ [41]) t 1 := by
  intro text v p hd hv
  have h0 := tok_of_sign (s := [40]) (v := s ++ [41] ++ v) (by decide)
  have hd0 : text.drop p = [40] ++ (s ++ [41] ++ v) := by rw [hd]; simp
  refine ⟨[40], nextP_at hd0 h0.2 h0.1, by simp, fun m a' x' h1 h7 hn hf => ?_⟩
  have hd1 : text.drop (p + 1) = s ++ ([41] ++ v) := by
    have := drop_add hd0
    simpa using this
  obtain ⟨y, hy, _, hp⟩ := h text ([41] ++ v) (p + 1) hd1 (okv_sign (by decide))
  have hd2 := drop_add hd1
  have h2 := tok_of_sign (s := [41]) (v := v) (by decide)
  have hn2 : nextP text (p + 1 + s.length) = .ok (p + 1 + s.length) [41] := nextP_at hd2 h2.2 h2.1
  obtain ⟨n, hn3⟩ := hp 7 _ _ (by omega) (by omega) hn2 (by intro m h2 h7; rcases (by omega : m = 2 ∨ m = 3 ∨ m = 4 ∨ m = 5 ∨ m = 6 ∨ m = 7) with e | e | e | e | e | e <;> subst e <;> decide)
  have hn4 : nextP text (p + 1 + s.length + 1) = .ok a' x' := by rw [← hn]; congr 1; simp; omega
  refine climbs' (by omega) ⟨n + 2, ?_⟩ h1 h7 hf
  show parse text (n + 2) .not p [40] = _
  rw [parse, takes_no (by decide)]
  simp only [bindT]
  rw [parse, takes_yes (x := [40]) hy]
  simp only [bindT]
  rw [show parse text n .choice (p + 1) y = _ from hn3]
  simp only [bindP]
  rw [takes_yes (x := [41]) hn4]
/-- A leaf. -/
theorem put_leaf {w : List UInt8} (hw : w ≠ []) (hall : w.all inWordB = true) (hk : w = [48] ∨ w = [49] ∨ isNameB w = true) : PutOk w (leaf w) 1 := by
  intro text v p hd hv
  have h0 := tok_of_word hw hall hv hk
  refine ⟨w, nextP_at hd h0.2 h0.1, hw, fun m a' x' h1 h7 hn hf => ?_⟩
  have hhead : ∀ s ∈ signs, w ≠ s := by
    intro s hs e
    subst e
    have := sign_leaf hs
    rcases hk with hk | hk | hk
    · exact this.2.2.1 hk
    · exact this.2.2.2 hk
    · rw [this.2.1] at hk; cases hk
  refine climbs' (by omega) ⟨2, ?_⟩ h1 h7 hf
  show parse text 2 .not p w = _
  rw [parse, takes_no (hhead [33] (by decide))]
  simp only [bindT]
  rw [parse, takes_no (hhead [40] (by decide))]
  simp only [bindT]
  have hnl : noLeaf w = false := by
    cases w with
    | nil => exact absurd rfl hw
    | cons c r => simp only [List.all_cons, Bool.and_eq_true] at hall; simp [noLeaf, hall.1]
  rw [hnl]
  simp only [Bool.false_eq_true, if_false]
  rw [next_P, hn]
/-- A not. -/
theorem put_not {s : List UInt8} {t : Tree} (h : PutOk s t 1) : PutOk ([33] ++ s) (.mk 4 [] [t]) 1 := by
  intro text v p hd hv
  have h0 := tok_of_sign (s := [33]) (v := s ++ v) (by decide)
  have hd0 : text.drop p = [33] ++ (s ++ v) := by rw [hd]; simp
  refine ⟨[33], nextP_at hd0 h0.2 h0.1, by simp, fun m a' x' h1 h7 hn hf => ?_⟩
  have hd1 : text.drop (p + 1) = s ++ v := by simpa using drop_add hd0
  obtain ⟨y, hy, _, hp⟩ := h text v (p + 1) hd1 hv
  obtain ⟨n, hn3⟩ := hp 1 a' x' (by omega) (by omega) (by rw [← hn]; congr 1; simp; omega) (by intro m h2 h7; omega)
  refine climbs' (by omega) ⟨n + 1, ?_⟩ h1 h7 hf
  show parse text (n + 1) .not p [33] = _
  rw [parse, takes_yes (x := [33]) hy]
  simp only [bindT]
  rw [show parse text n .not (p + 1) y = _ from hn3]
  rfl
/-- Behind a kid: a sign between blanks, and the next one. -/
theorem sign_next {text s r : List UInt8} {q : Nat} (hs : s ∈ signs) (hd : text.drop q = [32] ++ s ++ [32] ++ r) : nextP text q = .ok (q + 1) s ∧ nextP text (q + 1 + s.length) = nextP text (q + (s.length + 2)) ∧ text.drop (q + (s.length + 2)) = r := by
  have hd0 : text.drop q = 32 :: (s ++ (32 :: r)) := by rw [hd]; simp
  have hd1 : text.drop (q + 1) = s ++ (32 :: r) := by rw [← List.drop_drop, hd0]; rfl
  have hd2 := drop_add hd1
  have hd3 : text.drop (q + 1 + s.length + 1) = r := by rw [← List.drop_drop, hd2]; rfl
  have h0 := tok_of_sign (v := 32 :: r) hs
  refine ⟨by rw [nextP_blank hd0]; exact nextP_at hd1 h0.2 h0.1, ?_, by rw [← hd3]; congr 1; omega⟩
  rw [nextP_blank hd2]; congr 1; omega
theorem follow_tok {l m : Nat} (h : l < m) (hm : 2 ≤ m) (h7 : m ≤ 7) : follow l (opTok m) := by
  intro k h2 h3
  have : ∀ k ∈ [2, 3, 4, 5, 6, 7], ∀ m ∈ [2, 3, 4, 5, 6, 7], k < m → opTok m ≠ opTok k := by decide
  exact this k (by simp; omega) m (by simp; omega) (by omega)
theorem opTok_sign {m : Nat} (hm : 2 ≤ m) (h7 : m ≤ 7) : opTok m ∈ signs := by
  rcases (by omega : m = 2 ∨ m = 3 ∨ m = 4 ∨ m = 5 ∨ m = 6 ∨ m = 7) with e | e | e | e | e | e <;> subst e <;> decide
end Fm

namespace Fm
open Go Go.Eng
theorem PutOk.weaken {s : List UInt8} {t : Tree} {l l' : Nat} (h : PutOk s t l) (hl : l ≤ l') : PutOk s t l' := fun text v p hd hv => by
  obtain ⟨y, h1, h2, h3⟩ := h text v p hd hv
  exact ⟨y, h1, h2, fun m a' x' h4 => h3 m a' x' (by omega)⟩
def lineN (op : Int) : Nat := (lineOf op).toNat
theorem lineN_b (op : Int) : 1 ≤ lineN op ∧ lineN op ≤ 7 := by
  unfold lineN lineOf
  (repeat' split) <;> omega
theorem lineN_eq (op : Int) : (lineN op : Int) = lineOf op := by
  unfold lineN lineOf
  (repeat' split) <;> omega
theorem kid_ok {op i : Int} {k : Tree} {m : Nat} (h : PutOk (textT k) k (lineN k.op)) (hm : mostOf op i = (m : Int)) (h1 : 1 ≤ m) : PutOk (kidR op i k) k m := by
  unfold kidR
  have hb := lineN_b k.op
  have he := lineN_eq k.op
  split
  · exact (put_paren (h.weaken (by omega))).weaken h1
  · exact h.weaken (by omega)
theorem follow_le {l m : Nat} {x : List UInt8} (h : follow m x) (hl : l ≤ m) : follow l x := fun k h2 h3 => h k h2 (by omega)
theorem parse_down {text : List UInt8} {i n a a' : Nat} {x x' : List UInt8} {t : Tree} (hi : i ≤ 2) (h : parse text n (ntOf (3 - i)) a x = some (.ok t a' x')) : ∃ n, parse text n (.row (i + 1)) a x = some (.ok t a' x') := by
  rcases (by omega : i = 0 ∨ i = 1 ∨ i = 2) with e | e | e <;> subst e
  · exact ⟨n, h⟩
  · exact ⟨n, h⟩
  · exact ⟨n + 1, by rw [parse, if_pos (by omega)]; exact h⟩
theorem rowSign_tok {i : Nat} (hi : i ≤ 2) : rowSign i = opTok (4 - i) := by
  rcases (by omega : i = 0 ∨ i = 1 ∨ i = 2) with e | e | e <;> subst e <;> rfl
theorem headR_row {i : Nat} {j : Int} (hi : i ≤ 2) (hj : 0 < j) : headR (rowOp i) j = [32] ++ rowSign i ++ [32] := by
  rcases (by omega : i = 0 ∨ i = 1 ∨ i = 2) with e | e | e <;> subst e <;> simp [headR, rowOp, rowSign, signR, hj]
theorem headR_zero {op : Int} (h : op ≠ 4) : headR op 0 = [] := by simp [headR, h]
theorem most_row {i : Nat} {j : Int} (hi : i ≤ 2) : mostOf (rowOp i) j = ((3 - i : Nat) : Int) := by
  rcases (by omega : i = 0 ∨ i = 1 ∨ i = 2) with e | e | e <;> subst e <;> simp [mostOf, rowOp, lineOf]
theorem textL_okv {op j : Int} {ks : List Tree} {v : List UInt8} (hop : op ≠ 4) (hj : 0 < j) (hv : okv v) : okv (textL op j ks ++ v) := by
  cases ks with
  | nil => simpa [textL] using hv
  | cons k ks =>
    have : ∃ r, headR op j = 32 :: r := by
      unfold headR signR
      rw [if_neg hop, if_pos hj]
      (repeat' split) <;> exact ⟨_, rfl⟩
    obtain ⟨r, hr⟩ := this
    simp only [textL, hr, List.cons_append]
    exact okv_blank
theorem rest_ok {i : Nat} (hi : i ≤ 2) : ∀ (ks acc : List Tree) (j : Int) (text v : List UInt8) (p : Nat), 0 < j → text.drop p = textL (rowOp i) j ks ++ v → okv v → (∀ k ∈ ks, PutOk (textT k) k (lineN k.op)) →
    ∀ a' x', nextP text (p + (textL (rowOp i) j ks).length) = .ok a' x' → follow (4 - i) x' → ∃ a x n, nextP text p = .ok a x ∧ follow (3 - i) x ∧ parse text n (.rest i acc) a x = some (.ok (mkRow i (acc ++ ks)) a' x')
  | [], acc, j, text, v, p, hj, hd, hv, hk, a', x', hn, hf => by
    refine ⟨a', x', 1, by simpa [textL] using hn, follow_le hf (by omega), ?_⟩
    rw [parse, takes_no (by rw [rowSign_tok hi]; exact hf _ (by omega) (Nat.le_refl _))]
    simp [bindT]
  | k :: ks, acc, j, text, v, p, hj, hd, hv, hk, a', x', hn, hf => by
    have hop : rowOp i ≠ 4 := by
      rcases (by omega : i = 0 ∨ i = 1 ∨ i = 2) with e | e | e <;> subst e <;> decide
    have hs : rowSign i ∈ signs := by rw [rowSign_tok hi]; exact opTok_sign (by omega) (by omega)
    have hL : textL (rowOp i) j (k :: ks) = ([32] ++ rowSign i ++ [32]) ++ kidR (rowOp i) j k ++ textL (rowOp i) (j + 1) ks := by
      rw [← headR_row hi hj]; simp only [textL, kidR]
    rw [hL] at hd hn
    obtain ⟨n1, n2, d2⟩ := sign_next (r := kidR (rowOp i) j k ++ (textL (rowOp i) (j + 1) ks ++ v)) hs (by rw [hd]; simp)
    have hko := kid_ok (hk k (List.mem_cons_self ..)) (most_row (j := j) hi) (by omega)
    obtain ⟨y, hy, _, hp⟩ := hko text _ _ d2 (textL_okv hop (by omega) hv)
    have d3 := drop_add d2
    obtain ⟨a, x, m, hm1, hm2, hm3⟩ := rest_ok hi ks (acc ++ [k]) (j + 1) text v _ (by omega) d3 hv (fun k' h' => hk k' (List.mem_cons_of_mem _ h')) a' x' (by rw [← hn]; congr 1; simp only [List.length_append, List.length_cons, List.length_nil]; omega) hf
    obtain ⟨m2, hm4⟩ := hp (3 - i) a x (by omega) (by omega) hm1 hm2
    obtain ⟨m3, hm5⟩ := parse_down hi hm4
    refine ⟨p + 1, rowSign i, m + m3 + 1, n1, by rw [rowSign_tok hi]; exact follow_tok (by omega) (by omega) (by omega), ?_⟩
    rw [parse, takes_yes (x := rowSign i) (by rw [n2, hy])]
    simp only [bindT]
    rw [parse_mono hm5 (by omega)]
    simp only [bindP]
    rw [parse_mono hm3 (by omega)]
    simp
/-- A row of operands. -/
theorem put_row {i : Nat} (hi : i ≤ 2) {kids : List Tree} (h2 : 2 ≤ kids.length) (hk : ∀ k ∈ kids, PutOk (textT k) k (lineN k.op)) : PutOk (textL (rowOp i) 0 kids) (.mk (rowOp i) [] kids) (4 - i) := by
  match kids, h2 with
  | k1 :: k2 :: ks, _ =>
    intro text v p hd hv
    have hop : rowOp i ≠ 4 := by
      rcases (by omega : i = 0 ∨ i = 1 ∨ i = 2) with e | e | e <;> subst e <;> decide
    have hL : textL (rowOp i) 0 (k1 :: k2 :: ks) = kidR (rowOp i) 0 k1 ++ textL (rowOp i) 1 (k2 :: ks) := by
      rw [textL, headR_zero hop]; rfl
    rw [hL] at hd ⊢
    have hko := kid_ok (hk k1 (List.mem_cons_self ..)) (most_row (j := 0) hi) (by omega)
    have hd1 : text.drop p = kidR (rowOp i) 0 k1 ++ (textL (rowOp i) 1 (k2 :: ks) ++ v) := by rw [hd]; simp
    obtain ⟨y, hy, hyn, hp⟩ := hko text _ p hd1 (textL_okv hop (by omega) hv)
    refine ⟨y, hy, hyn, fun m a' x' h1 h7 hn hf => ?_⟩
    have d2 := drop_add hd1
    obtain ⟨a, x, n1, h3, h4, h5⟩ := rest_ok hi (k2 :: ks) [k1] 1 text v _ (by omega) d2 hv (fun k h => hk k (List.mem_cons_of_mem _ h)) a' x' (by rw [← hn]; congr 1; simp only [List.length_append]; omega) (follow_le hf h1)
    obtain ⟨n2, h6⟩ := hp (3 - i) a x (by omega) (by omega) h3 h4
    obtain ⟨n3, h7'⟩ := parse_down hi h6
    refine climbs' (by omega) ⟨n1 + n3 + 1, ?_⟩ h1 h7 hf
    have e : ntOf (4 - i) = .row i := by rcases (by omega : i = 0 ∨ i = 1 ∨ i = 2) with e | e | e <;> subst e <;> rfl
    rw [e, parse, if_neg (by omega), parse_mono h7' (by omega)]
    simp only [bindP]
    rw [parse_mono h5 (by omega)]
    rfl
/-- Two operands. -/
theorem put_two {op : Int} {l m1 m2 : Nat} {k1 k2 : Tree} (hop : op ≠ 4) (hl : 2 ≤ l) (hl7 : l ≤ 6) (hh : headR op 1 = [32] ++ opTok l ++ [32]) (hm1 : mostOf op 0 = (m1 : Int)) (hm2 : mostOf op 1 = (m2 : Int)) (h1 : 1 ≤ m1) (h2 : 1 ≤ m2) (h1l : m1 < l) (h2l : m2 ≤ l)
    (hk1 : PutOk (textT k1) k1 (lineN k1.op)) (hk2 : PutOk (textT k2) k2 (lineN k2.op))
    (hp : ∀ text n a x a1 a2 y a' x', parse text n (ntOf m1) a x = some (.ok k1 a1 (opTok l)) → takes text a1 (opTok l) (opTok l) = .yes a2 y → parse text n (ntOf m2) a2 y = some (.ok k2 a' x') → parse text (n + 1) (ntOf l) a x = some (.ok (.mk op [] [k1, k2]) a' x')) :
    PutOk (textL op 0 [k1, k2]) (.mk op [] [k1, k2]) l := by
  intro text v p hd hv
  have hL : textL op 0 [k1, k2] = kidR op 0 k1 ++ ([32] ++ opTok l ++ [32]) ++ kidR op 1 k2 := by
    rw [textL, headR_zero hop, textL, show (0 : Int) + 1 = 1 from rfl, hh, textL]; simp [kidR]
  rw [hL] at hd ⊢
  have hd1 : text.drop p = kidR op 0 k1 ++ ([32] ++ opTok l ++ [32] ++ (kidR op 1 k2 ++ v)) := by rw [hd]; simp
  have hok1 : okv ([32] ++ opTok l ++ [32] ++ (kidR op 1 k2 ++ v)) := by simp only [List.cons_append, List.nil_append]; exact okv_blank
  obtain ⟨y, hy, hyn, hpk⟩ := kid_ok hk1 hm1 h1 text _ p hd1 hok1
  refine ⟨y, hy, hyn, fun m a' x' hlm h7 hn hf => ?_⟩
  have d2 := drop_add hd1
  obtain ⟨n1, n2, d3⟩ := sign_next (opTok_sign hl (by omega)) d2
  obtain ⟨y2, hy2, _, hpk2⟩ := kid_ok hk2 hm2 h2 text v _ d3 hv
  obtain ⟨f1, hf1⟩ := hpk m1 _ _ (by omega) (by omega) n1 (follow_tok h1l hl (by omega))
  obtain ⟨f2, hf2⟩ := hpk2 m2 a' x' (by omega) (by omega) (by rw [← hn]; congr 1; simp only [List.length_append, List.length_cons, List.length_nil]; omega) (follow_le hf (by omega))
  refine climbs' (by omega) ⟨f1 + f2 + 1, ?_⟩ hlm h7 hf
  exact hp text (f1 + f2) p y _ _ y2 a' x' (parse_mono hf1 (by omega)) (takes_yes (by rw [n2, hy2])) (parse_mono hf2 (by omega))
theorem put_implies {k1 k2 : Tree} (hk1 : PutOk (textT k1) k1 (lineN k1.op)) (hk2 : PutOk (textT k2) k2 (lineN k2.op)) : PutOk (textL 8 0 [k1, k2]) (.mk 8 [] [k1, k2]) 5 :=
  put_two (by decide) (by omega) (by omega) (by decide) (m1 := 4) (m2 := 5) (by decide) (by decide) (by omega) (by omega) (by omega) (by omega) hk1 hk2 (fun text n a x a1 a2 y a' x' h1 h2 h3 => by
    show parse text (n + 1) .implies a x = _
    rw [parse, show parse text n (.row 0) a x = _ from h1]
    simp only [bindP]
    rw [show takes text a1 (opTok 5) [61, 62] = _ from h2]
    simp only [bindT]
    rw [show parse text n .implies a2 y = _ from h3])
theorem put_same {k1 k2 : Tree} (hk1 : PutOk (textT k1) k1 (lineN k1.op)) (hk2 : PutOk (textT k2) k2 (lineN k2.op)) : PutOk (textL 9 0 [k1, k2]) (.mk 9 [] [k1, k2]) 6 :=
  put_two (by decide) (by omega) (by omega) (by decide) (m1 := 5) (m2 := 5) (by decide) (by decide) (by omega) (by omega) (by omega) (by omega) hk1 hk2 (fun text n a x a1 a2 y a' x' h1 h2 h3 => by
    show parse text (n + 1) .same a x = _
    rw [parse, show parse text n .implies a x = _ from h1]
    simp only [bindP]
    rw [show takes text a1 (opTok 6) [60, 61, 62] = _ from h2]
    simp only [bindT]
    rw [show parse text n .implies a2 y = _ from h3])
theorem put_choice {k1 k2 k3 : Tree} (hk1 : PutOk (textT k1) k1 (lineN k1.op)) (hk2 : PutOk (textT k2) k2 (lineN k2.op)) (hk3 : PutOk (textT k3) k3 (lineN k3.op)) : PutOk (textL 10 0 [k1, k2, k3]) (.mk 10 [] [k1, k2, k3]) 7 := by
  intro text v p hd hv
  have hL : textL 10 0 [k1, k2, k3] = kidR 10 0 k1 ++ ([32] ++ [63] ++ [32]) ++ kidR 10 1 k2 ++ ([32] ++ [58] ++ [32]) ++ kidR 10 2 k3 := by
    simp only [textL, kidR]
    rw [show headR 10 0 = [] by decide, show (0 : Int) + 1 = 1 from rfl, show headR 10 1 = [32, 63, 32] by decide, show (1 : Int) + 1 = 2 from rfl, show headR 10 2 = [32, 58, 32] by decide]
    simp
  rw [hL] at hd ⊢
  have hd1 : text.drop p = kidR 10 0 k1 ++ ([32] ++ [63] ++ [32] ++ (kidR 10 1 k2 ++ ([32] ++ [58] ++ [32] ++ (kidR 10 2 k3 ++ v)))) := by rw [hd]; simp
  obtain ⟨y, hy, hyn, hpk⟩ := kid_ok (m := 6) hk1 (by decide) (by omega) text _ p hd1 (by simp only [List.cons_append, List.nil_append]; exact okv_blank)
  refine ⟨y, hy, hyn, fun m a' x' hlm h7 hn hf => ?_⟩
  have d2 := drop_add hd1
  obtain ⟨n1, n2, d3⟩ := sign_next (s := [63]) (by decide) d2
  obtain ⟨y2, hy2, _, hpk2⟩ := kid_ok (m := 7) hk2 (op := 10) (i := 1) (by decide) (by omega) text _ _ d3 (by simp only [List.cons_append, List.nil_append]; exact okv_blank)
  have d4 := drop_add d3
  obtain ⟨n3, n4, d5⟩ := sign_next (s := [58]) (by decide) d4
  obtain ⟨y3, hy3, _, hpk3⟩ := kid_ok (m := 7) hk3 (op := 10) (i := 2) (by decide) (by omega) text v _ d5 hv
  obtain ⟨f1, hf1⟩ := hpk 6 _ _ (by omega) (by omega) n1 (by intro k h2 h3; rcases (by omega : k = 2 ∨ k = 3 ∨ k = 4 ∨ k = 5 ∨ k = 6) with e | e | e | e | e <;> subst e <;> decide)
  obtain ⟨f2, hf2⟩ := hpk2 7 _ _ (by omega) (by omega) n3 (by intro k h2 h3; rcases (by omega : k = 2 ∨ k = 3 ∨ k = 4 ∨ k = 5 ∨ k = 6 ∨ k = 7) with e | e | e | e | e | e <;> subst e <;> decide)
  obtain ⟨f3, hf3⟩ := hpk3 7 a' x' (by omega) (by omega) (by rw [← hn]; congr 1; simp only [List.length_append, List.length_cons, List.length_nil]; omega) (follow_le hf (by omega))
  refine climbs' (l := 7) (by omega) ⟨f1 + f2 + f3 + 1, ?_⟩ hlm h7 hf
  show parse text (f1 + f2 + f3 + 1) .choice p y = _
  rw [parse, show parse text (f1 + f2 + f3) .same p y = _ from parse_mono hf1 (by omega)]
  simp only [bindP]
  rw [takes_yes (x := [63]) (by rw [n2, hy2])]
  simp only [bindT]
  rw [show parse text (f1 + f2 + f3) .choice _ y2 = _ from parse_mono hf2 (by omega)]
  simp only [bindP]
  rw [takes_yes (x := [58]) (by rw [n4, hy3])]
  simp only [bindT]
  rw [show parse text (f1 + f2 + f3) .choice _ y3 = _ from parse_mono hf3 (by omega)]
/-- What a right node is, operator by operator. -/
theorem right_cases {op : Int} {name : List UInt8} {kids : List Tree} (h : rightB (.mk op name kids) = true) :
    (op = 1 ∧ name = [] ∧ kids = []) ∨ (op = 2 ∧ name = [] ∧ kids = []) ∨ (op = 3 ∧ isNameB name = true ∧ kids = []) ∨ (op = 4 ∧ name = [] ∧ kids.length = 1) ∨ (∃ i, i ≤ 2 ∧ op = rowOp i ∧ name = [] ∧ 2 ≤ kids.length) ∨
    (op = 8 ∧ name = [] ∧ kids.length = 2) ∨ (op = 9 ∧ name = [] ∧ kids.length = 2) ∨ (op = 10 ∧ name = [] ∧ kids.length = 3) := by
  have hr := right_op h
  have h' := h
  rw [← oneB_right] at h'
  unfold oneB at h'
  have e1 : (Tree.mk op name kids).op = op := rfl
  have e2 : (Tree.mk op name kids).name = name := rfl
  have e3 : (Tree.mk op name kids).kids = kids := rfl
  rw [e1, e2, e3] at h'
  rw [e1] at hr
  rcases (by omega : op = 1 ∨ op = 2 ∨ op = 3 ∨ op = 4 ∨ op = 5 ∨ op = 6 ∨ op = 7 ∨ op = 8 ∨ op = 9 ∨ op = 10) with e | e | e | e | e | e | e | e | e | e <;> subst e <;> simp at h'
  · exact .inl ⟨rfl, h'.1, h'.2⟩
  · exact .inr (.inl ⟨rfl, h'.1, h'.2⟩)
  · exact .inr (.inr (.inl ⟨rfl, h'.2, h'.1⟩))
  · exact .inr (.inr (.inr (.inl ⟨rfl, h'.1, h'.2⟩)))
  · exact .inr (.inr (.inr (.inr (.inl ⟨2, by omega, rfl, h'.1, h'.2⟩))))
  · exact .inr (.inr (.inr (.inr (.inl ⟨0, by omega, rfl, h'.1, h'.2⟩))))
  · exact .inr (.inr (.inr (.inr (.inl ⟨1, by omega, rfl, h'.1, h'.2⟩))))
  · exact .inr (.inr (.inr (.inr (.inr (.inl ⟨rfl, h'.1, h'.2⟩)))))
  · exact .inr (.inr (.inr (.inr (.inr (.inr (.inl ⟨rfl, h'.1, h'.2⟩))))))
  · exact .inr (.inr (.inr (.inr (.inr (.inr (.inr ⟨rfl, h'.1, h'.2⟩))))))
mutual
theorem text_ok : ∀ t : Tree, (rowT t).all rightB = true → PutOk (textT t) t (lineN t.op)
  | .mk op name kids, h => by
    simp only [rowT, List.all_cons, Bool.and_eq_true] at h
    have hk := textL_ok kids h.2
    rcases right_cases h.1 with ⟨rfl, rfl, rfl⟩ | ⟨rfl, rfl, rfl⟩ | ⟨rfl, hn, rfl⟩ | ⟨rfl, rfl, hl⟩ | ⟨i, hi, rfl, rfl, hl⟩ | ⟨rfl, rfl, hl⟩ | ⟨rfl, rfl, hl⟩ | ⟨rfl, rfl, hl⟩
    · exact put_leaf (w := [48]) (by simp) (by decide) (.inl rfl)
    · exact put_leaf (w := [49]) (by simp) (by decide) (.inr (.inl rfl))
    · have hne : name ≠ [] := by intro h0; subst h0; simp [isNameB] at hn
      have hall : name.all inWordB = true := by
        cases name with
        | nil => rfl
        | cons c r => simp only [isNameB, Bool.and_eq_true] at hn; exact hn.2
      have hd : ∀ c ∈ ([48, 49] : List UInt8), name ≠ [c] := by
        intro c hc h0; subst h0
        have : ∀ c ∈ ([48, 49] : List UInt8), isNameB [c] = false := by decide
        rw [this c hc] at hn; cases hn
      have := put_leaf hne hall (.inr (.inr hn))
      rw [leaf, if_neg (hd 48 (by simp)), if_neg (hd 49 (by simp))] at this
      have e : textT (.mk 3 name []) = name := by simp [textT]
      rw [e]; exact this
    · obtain ⟨k, rfl⟩ := List.length_eq_one_iff.1 hl
      have e : textT (.mk 4 [] [k]) = [33] ++ kidR 4 0 k := by simp [textT, textL, headR, kidR]
      rw [e]
      exact put_not (kid_ok (hk k (by simp)) (by decide) (by omega))
    · have e : textT (.mk (rowOp i) [] kids) = textL (rowOp i) 0 kids := by
        rcases (by omega : i = 0 ∨ i = 1 ∨ i = 2) with e | e | e <;> subst e <;> simp [textT, rowOp]
      rw [e]
      have el : lineN (Tree.mk (rowOp i) [] kids).op = 4 - i := by
        rcases (by omega : i = 0 ∨ i = 1 ∨ i = 2) with e | e | e <;> subst e <;> rfl
      rw [el]
      exact put_row hi hl hk
    · match kids, hl with
      | [k1, k2], _ =>
        have e : textT (.mk 8 [] [k1, k2]) = textL 8 0 [k1, k2] := by simp [textT]
        rw [e]; exact put_implies (hk k1 (by simp)) (hk k2 (by simp))
    · match kids, hl with
      | [k1, k2], _ =>
        have e : textT (.mk 9 [] [k1, k2]) = textL 9 0 [k1, k2] := by simp [textT]
        rw [e]; exact put_same (hk k1 (by simp)) (hk k2 (by simp))
    · match kids, hl with
      | [k1, k2, k3], _ =>
        have e : textT (.mk 10 [] [k1, k2, k3]) = textL 10 0 [k1, k2, k3] := by simp [textT]
        rw [e]; exact put_choice (hk k1 (by simp)) (hk k2 (by simp)) (hk k3 (by simp))
theorem textL_ok : ∀ ts : List Tree, (rowL ts).all rightB = true → ∀ k ∈ ts, PutOk (textT k) k (lineN k.op)
  | [], _ => fun k hk => by cases hk
  | t :: ts, h => by
    simp only [rowL, List.all_append, Bool.and_eq_true] at h
    have h1 := text_ok t h.1
    have h2 := textL_ok ts h.2
    intro k hk
    rcases List.mem_cons.1 hk with e | hk
    · rw [e]; exact h1
    · exact h2 k hk
end
/-- What is printed of a valid formula is parsed to it. -/
theorem top_text {t : Tree} (hv : validB t = true) (hall : (rowT t).all rightB = true) (hlen : (textT t).length ≤ 65536) : top (textT t) = (t, 0, 0) := by
  obtain ⟨y, hy, hyn, hp⟩ := text_ok t hall (textT t) [] 0 (by simp) (by intro c hc; simp at hc)
  have hend : nextP (textT t) (0 + (textT t).length) = .ok (textT t).length [] := by
    unfold nextP
    rw [Nat.zero_add, List.drop_length]
    simp [blanks, tok]
  have hb := lineN_b t.op
  obtain ⟨n, hn⟩ := hp 7 _ _ hb.2 (by omega) hend (by intro k h2 h3; rcases (by omega : k = 2 ∨ k = 3 ∨ k = 4 ∨ k = 5 ∨ k = 6 ∨ k = 7) with e | e | e | e | e | e <;> subst e <;> decide)
  have hnext : next (textT t) 0 [] = .ok 0 y := by rw [next_P]; exact hy
  have hle := next_le (at_ := 0) (wd := []) (by simp) hnext
  obtain ⟨r, hr⟩ := parse_total (text := textT t) (fuel (textT t)) .choice 0 y hle.2 (by simp only [rank, fuel]; omega)
  have h1 := parse_mono hn (show n ≤ n + fuel (textT t) by omega)
  have h2 := parse_mono hr (show fuel (textT t) ≤ n + fuel (textT t) by omega)
  have h3 : r = .ok t (textT t).length [] := by
    have := h2.symm.trans h1
    injection this
  subst h3
  unfold top
  rw [if_neg (by omega), hnext]
  simp only [hr, hv]
  simp
end Fm

namespace Go.Proofs.Ytbippghgkbapnaa
open Go Go.Eng Go.Proofs
theorem Clone_c (ls : List (List Int)) (a : Option Addr) (cap : Nat) (us : List Value) (hlen : ls.length ≤ 1099511627776) (ha : a = none ∨ ∃ b off, a = some ⟨b, off, none⟩) (w : World) (hr : RdLL w ls a us) :
    Calls Try.prog 62 [.slice a ls.length cap].toArray w fun e w' => ∃ x : Option Addr × Nat, e = .returned (.slice x.1 ls.length x.2) ∧ St w [] [rowc (.slice x.1 ls.length x.2) ls.length 54 1 us] w' := by
  refine enter Try.func62 rfl Try.ntmps62 rfl (St.init _) ?_
  refine WC.seq ?_
  refine WC.region ?_
  refine WL.step ?_
  refine WL.assign rfl rfl ?_
  refine WL.nil ?_
  refine WQ.then_normal ?_
  refine WC.seq ?_
  refine WC.seq ?_
  rcases ha with rfl | ⟨b, off, rfl⟩
  · skip
    have hus : us = [] := by
      cases us with
      | nil => rfl
      | cons u r =>
        obtain ⟨b, off, h1, _⟩ := hr.hd 0 u rfl
        cases h1
    have hl0 : ls = [] := by (have := hr.len; rw [hus] at this; exact List.eq_nil_of_length_eq_zero this.symm)
    subst hus; subst hl0
    refine WC.region ?_
    refine WL.step ?_
    refine WL.move rfl rfl ?_
    refine WL.step ?_
    refine WL.bin rfl rfl rfl (v := .bool true) (fun w => by kernel_rfl) ?_
    refine WL.nil ?_
    refine WQ.then_normal ?_
    refine WC.condT rfl ?_
    refine WC.seq ?_
    refine WC.region ?_
    refine WL.step ?_
    refine WL.assign rfl rfl ?_
    refine WL.nil ?_
    refine WQ.then_normal ?_
    refine WC.ret ?_
    refine WQ.then_ret ?_
    exact WQ.ret (rs := [.tmp 2]) rfl (.tmp rfl .nil) (fun w hS => ⟨(none, 0), rfl, hS.rowNil 54 1⟩)
  · skip
    refine WC.region ?_
    refine WL.step ?_
    refine WL.move rfl rfl ?_
    refine WL.step ?_
    refine WL.bin rfl rfl rfl (v := .bool false) (fun w => by kernel_rfl) ?_
    refine WL.nil ?_
    refine WQ.then_normal ?_
    refine WC.condF rfl ?_
    refine WC.skip ?_
    refine WQ.then_normal ?_
    refine WC.seq ?_
    refine WC.region ?_
    refine WL.step ?_
    refine WL.buildSlice0 F.sl38 rfl (fun b5 => ?_)
    refine WA.chunks (fun w hS => hS.rowOf (n := 0) (sz := 1) rfl (by decide)) ?_
    refine WL.step ?_
    refine WL.move rfl rfl ?_
    refine WL.step ?_
    refine WL.appendE (news := us) F.el38 rfl rfl rfl (by repeat (first | exact Rem.here | apply Rem.there)) (fun w hS i u hu => ?_) (by rw [hr.len, Nat.mul_one]) (fun u hu => ?_) (Nat.le_trans (m := 1099511627776) (by omega) (by decide)) (by omega) (fun a2 cap2 => ?_)
    · obtain ⟨b2, off2, h1, h2⟩ := hr.hd i u hu
      injection h1 with h1
      injection h1 with h1 h3
      subst h1; subst h3
      exact hS.oldc h2 (by simp)
    · obtain ⟨i, hi, he⟩ := List.getElem_of_mem hu
      have h1 : us[i]? = some u := by rw [List.getElem?_eq_getElem hi, he]
      have h2 : ls[i]? = some (ls[i]'(by rw [← hr.len]; exact hi)) := List.getElem?_eq_getElem _
      obtain ⟨a1, c1, h3, _⟩ := hr.rd i _ u h2 h1
      subst h3
      rfl
    refine WL.step ?_
    refine WL.assign rfl rfl ?_
    refine WL.nil ?_
    refine WQ.then_normal ?_
    refine WC.ret ?_
    refine WQ.ret (rs := [.tmp 2]) rfl (.tmp rfl .nil) (fun w hS => ⟨(a2, cap2), ?_, ?_⟩)
    · simp [tup]
    · simpa using hS

theorem passK_KB : ∀ {ls : List (List Int)} {k : Fm.Kn} {ag : Bool}, KB k → (∀ c ∈ ls, ∀ x ∈ c, Lit x) → (∀ k', Fm.passK ls k ag = .inl k' → KB k') ∧ (∀ k' b, Fm.passK ls k ag = .inr (k', b) → KB k')
  | [], k, ag, hk, _ => ⟨fun k' h => by simp [Fm.passK] at h, fun k' b h => by simp only [Fm.passK, Sum.inr.injEq, Prod.mk.injEq] at h; rw [← h.1]; exact hk⟩
  | c :: cs, k, ag, hk, hl => by
    have hcs : ∀ c ∈ cs, ∀ x ∈ c, Lit x := fun c' h => hl c' (List.mem_cons_of_mem _ h)
    simp only [Fm.passK]
    split
    · exact ⟨fun k' h => by injection h with h; rw [← h]; exact hk, fun k' b h => by cases h⟩
    split
    · exact ⟨fun k' h => by injection h with h; rw [← h]; exact hk, fun k' b h => by cases h⟩
    split
    · rename_i h1 h2 h3
      have hx : Lit (Fm.unitK k c).1 := by
        rcases unitG_mem (x := (Fm.unitK k c).1) (c := c) (op := 0) (k := k) (by have := h3; unfold Fm.unitK at this ⊢; rw [← this]) with h0 | h0
        · exfalso
          apply h2
          rw [h3, h0]; rfl
        · exact hl c (List.mem_cons_self ..) _ h0
      exact passK_KB (hk.with hx) hcs
    · exact passK_KB hk hcs
theorem closedF_KB : ∀ {f : Nat} {ls : List (List Int)} {k k' : Fm.Kn} {b : Bool}, KB k → (∀ c ∈ ls, ∀ x ∈ c, Lit x) → Fm.closedF f ls k = some (k', b) → KB k'
  | 0, ls, k, k', b, _, _, h => by simp [Fm.closedF] at h
  | f + 1, ls, k, k', b, hk, hl, h => by
    have hp := passK_KB (ag := false) hk hl
    simp only [Fm.closedF] at h
    split at h
    · rename_i k2 h2
      simp only [Option.some.injEq, Prod.mk.injEq] at h
      rw [← h.1]; exact hp.1 _ h2
    · rename_i k2 b2 h2
      split at h
      · exact closedF_KB (hp.2 _ _ h2) hl h
      · simp only [Option.some.injEq, Prod.mk.injEq] at h
        rw [← h.1]; exact hp.2 _ _ h2
theorem solveF_true {n f : Nat} {all proof : List (List Int)} {path : List Int} : Fm.solveF n (f + 1) true all path proof = match path.getLast? with
    | none => some ⟨false, 0, proof ++ [path.map (fun x => -x)]⟩
    | some last => if last < 0 then Fm.solveF n f false (all ++ [path.map (fun x => -x)]) (path.dropLast ++ [-last]) (proof ++ [path.map (fun x => -x)]) else Fm.solveF n f true (all ++ [path.map (fun x => -x)]) path.dropLast (proof ++ [path.map (fun x => -x)]) := rfl
structure SG where
  f : Nat
  path : List Int
  ss : List (List Int)
  vs : List Value
  hs : List Value
  ps : List Value
  F : List Nat
  aa : Option Addr
  pa : Option Addr
  ta : Option Addr
  ca : Nat
  pc : Nat
  tc : Nat
  nA : Nat
  nP : Nat
  nT : Nat
structure SInv (n : Nat) (ls : List (List Int)) (us : List Value) (r : Fm.Ans) (mode : Bool) (g : SG) : Prop where
  sol : Fm.solveF n g.f mode (ls ++ g.ss) g.path g.ss = some r
  hhs : g.hs = us ++ g.vs
  hps : g.ps = g.path.map (Value.int .i64)
  hA : g.nA = ls.length + g.ss.length
  hP : g.nP = g.ss.length
  hT : g.nT = g.path.length
  lit : ∀ x ∈ g.path, x ≠ 0 ∧ -24 ≤ x ∧ x ≤ 24
  slit : ∀ c ∈ g.ss, ∀ x ∈ c, Lit x
  slen : ∀ c ∈ g.ss, c.length ≤ 1099511627776
  bp : g.path.length + g.f ≤ 1073741824
  bs : g.ss.length + g.f ≤ 1073741824
/-- The step that shows that a path leads to no model, laid up to i. -/
def stepAt (path : List Int) (i : Nat) : List Value := ((path.map (fun x => -x)).take i).map (Value.int .i64) ++ List.replicate (path.length - i) (.int .i64 0)
theorem stepAt_len {path : List Int} {i : Nat} (h : i ≤ path.length) : (stepAt path i).length = path.length := by
  simp [stepAt]; omega
theorem stepAt_set {path : List Int} {i : Nat} {x : Int} (h : path[i]? = some x) : (stepAt path i).set i (.int .i64 (-x)) = stepAt path (i + 1) := by
  have hi := (List.getElem?_eq_some_iff.1 h).1
  have hl : (((path.map (fun x => -x)).take i).map (Value.int .i64)).length = i := by simp; omega
  unfold stepAt
  rw [List.set_append_right _ _ (by omega), hl, Nat.sub_self, List.take_add_one, List.map_append]
  have hg : (path.map (fun x => -x))[i]? = some (-x) := by simp [h]
  rw [hg]
  have hr : path.length - i = (path.length - (i + 1)) + 1 := by omega
  rw [hr, List.replicate_succ, List.set_cons_zero]
  simp
theorem stepAt_end {path : List Int} : stepAt path path.length = (path.map (fun x => -x)).map (Value.int .i64) := by
  simp [stepAt]
  rw [List.take_of_length_le (by simp)]
theorem Lit.neg {x : Int} (h : x ≠ 0 ∧ -24 ≤ x ∧ x ≤ 24) : Lit (-x) := ⟨by omega, by omega, by omega⟩
theorem litB_lit {n : Nat} {x : Int} (hn : n ≤ 24) (h : Fm.litB (n : Int) x = true) : Lit x := by
  simp only [Fm.litB, Bool.and_eq_true, Bool.not_eq_true', decide_eq_true_eq, beq_eq_false_iff_ne] at h
  exact ⟨h.1.1, by omega, by omega⟩
theorem may_lit {n : Nat} {ls : List (List Int)} (hn : n ≤ 24) (h : ls.all (Fm.fitsB (n : Int)) = true) : (∀ c ∈ ls, ∀ x ∈ c, Lit x) ∧ (∀ c ∈ ls, c.length ≤ 64) := by
  rw [List.all_eq_true] at h
  refine ⟨fun c hc x hx => ?_, fun c hc => ?_⟩
  · have := h c hc
    simp only [Fm.fitsB, Bool.and_eq_true, List.all_eq_true] at this
    exact litB_lit hn (this.2 x hx)
  · have := h c hc
    simp only [Fm.fitsB, Bool.and_eq_true, decide_eq_true_eq] at this
    exact this.1
def SolvePost (w : World) (r : Fm.Ans) (e : Ending) (w' : World) : Prop :=
  ∃ (x : Option Addr × Nat) (F : List Nat) (vs : List Value), e = .returned (.tuple #[.agg #[.bool r.ok, .int .u32 (r.model : Int), .slice x.1 r.proof.length x.2], .int .i64 0]) ∧
    St w [] [rowc (.slice x.1 r.proof.length x.2) r.proof.length 54 1 vs, stepsC F vs r.proof] w'

theorem may_zero {m : Int} {ls : List (List Int)} (h : Fm.mayE m ls = 0) : (0 ≤ m ∧ m ≤ 24) ∧ ls.length ≤ 4096 ∧ ls.all (Fm.fitsB m) = true := by
  unfold Fm.mayE at h
  split at h
  · cases h
  split at h
  · cases h
  split at h
  · rename_i h1 h2 h3
    exact ⟨by omega, by omega, h3⟩
  · cases h
theorem stepAt_zero {path : List Int} {k : Nat} (h : k = path.length) : stepAt path 0 = List.replicate k (.int .i64 0) := by
  simp [stepAt, h]
theorem last_at {path : List Int} {x : Int} {k : Nat} (hk : k = path.length) (h : path.getLast? = some x) : path[k - 1]? = some x ∧ 0 < k := by
  subst hk
  rw [List.getLast?_eq_getElem?] at h
  exact ⟨h, by have := (List.getElem?_eq_some_iff.1 h).1; omega⟩
namespace F
theorem info3 : (Try.prog.info? 3).map (fun i => (i.zero, i.size, i.bytes)) = some (some (.int .i64 0), 1, 8) := by kernel_rfl
end F

theorem Solve_c (m : Int) (ls : List (List Int)) (a : Option Addr) (cap : Nat) (us : List Value) (ha : a = none ∨ ∃ b off, a = some ⟨b, off, none⟩) (w : World) (hr : RdLL w ls a us)
    (f0 : Nat) (r : Fm.Ans) (hf0 : f0 ≤ 536870912) (hsol : ∀ n : Nat, m = (n : Int) → Fm.mayE m ls = 0 → Fm.solveF n f0 false ls [] [] = some r) :
    Calls Try.prog 24 [.int .i64 m, .slice a ls.length cap].toArray w fun e w' => (Fm.mayE m ls ≠ 0 ∧ e = .returned (.tuple #[.agg #[.bool false, .int .u32 0, .slice none 0 0], .int .i64 (Fm.mayE m ls)]) ∧ St w [] [] w') ∨
      (Fm.mayE m ls = 0 ∧ SolvePost w r e w') := by
  refine enter Try.func24 rfl Try.ntmps24 rfl (St.init _) ?_
  refine WC.seq ?_
  refine WC.region ?_
  refine WL.step ?_
  refine WL.alloc F.zero43 rfl (fun b4 => ?_)
  refine WL.step ?_
  refine WL.assign rfl rfl ?_
  refine WL.nil ?_
  refine WQ.then_normal ?_
  refine WC.scope ?_
  refine WC.seq ?_
  refine WC.seq ?_
  refine WC.region ?_
  refine WL.step ?_
  refine WL.move rfl rfl ?_
  refine WL.step ?_
  refine WL.move rfl rfl ?_
  refine WL.step ?_
  refine WL.callV F.fun61 rfl rfl (fun w hS => may_c m ls a cap us w (hr.next hS)) ?_
  refine WL.step ?_
  refine WL.assign rfl rfl ?_
  refine WL.nil ?_
  refine WQ.then_normal ?_
  refine WC.seq ?_
  refine WC.region ?_
  refine WL.step ?_
  refine WL.move rfl rfl ?_
  refine WL.step ?_
  refine WL.neI rfl rfl rfl ?_
  refine WL.nil ?_
  refine WQ.then_normal ?_
  refine WC.cond rfl (fun h23 => ?_) (fun h23 => ?_)
  · skip
    have hme : Fm.mayE m ls ≠ 0 := by simpa using h23
    refine WC.seq ?_
    refine WC.region ?_
    refine WL.step ?_
    refine WL.build F.stT43 rfl (by repeat (first | exact Built.nil | apply Built.one rfl rfl (by repeat constructor) | apply Built.agg rfl rfl (by repeat constructor))) rfl ?_
    refine WL.step ?_
    refine WL.move rfl rfl ?_
    refine WL.step ?_
    refine WL.storeN F.agg43 rfl rfl rfl (by simp [Value.oneCell']) (by repeat (first | exact Upd.here | apply Upd.there)) (by repeat constructor) ?_
    refine WL.step ?_
    refine WL.assign rfl rfl ?_
    refine WL.nil ?_
    refine WQ.then_normal ?_
    refine WC.ret ?_
    refine WQ.then_ret ?_
    refine WQ.scope_ret ?_
    refine WQ.ret (rs := [.cell 4 43, .tmp 5]) rfl (.cellN F.agg43 rfl (by repeat (first | exact List.Mem.head _ | apply List.Mem.tail)) rfl (.tmp rfl .nil)) (fun w hS => .inl ⟨hme, rfl, hS.drop⟩)
  · skip
    have hme : Fm.mayE m ls = 0 := by simpa using h23
    obtain ⟨hm0, hcount, hall⟩ := may_zero hme
    obtain ⟨n, rfl⟩ : ∃ n : Nat, m = (n : Int) := ⟨m.toNat, by omega⟩
    have hn : n ≤ 24 := by omega
    obtain ⟨hlits, hlens⟩ := may_lit hn hall
    have h := hsol n rfl hme
    refine WC.skip ?_
    refine WQ.then_normal ?_
    refine WC.seq ?_
    refine WC.region ?_
    refine WL.step ?_
    refine WL.move rfl rfl ?_
    refine WL.step ?_
    refine WL.callC (β := Option Addr × Nat) (res := fun x => .slice x.1 ls.length x.2) (cs := fun x => [rowc (.slice x.1 ls.length x.2) ls.length 54 1 us]) (Cs := []) (O' := []) F.fun62 (fun d h => by cases h; rfl) rfl (List.Perm.refl _) (by simp) (by simp) (fun w hS _ => Clone_c ls a cap us (by omega) ha w (hr.next hS)) (fun x27 => ?_)
    refine WL.step ?_
    refine WL.assign rfl rfl ?_
    refine WL.nil ?_
    refine WQ.then_normal ?_
    refine WC.seq ?_
    refine WC.region ?_
    refine WL.step ?_
    refine WL.assign rfl rfl ?_
    refine WL.nil ?_
    refine WQ.then_normal ?_
    refine WC.seq ?_
    refine WC.region ?_
    refine WL.step ?_
    refine WL.assign rfl rfl ?_
    refine WL.nil ?_
    refine WQ.then_normal ?_
    refine WC.seq ?_
    refine WC.label ?_
    refine WQ.then_normal ?_
    refine WC.block ?_
    obtain ⟨a1, c1⟩ := x27
    refine WC.chunks (fun w hS => (hS.rowNil 54 1)) ?_
    refine WC.chunks (fun w hS => (hS.rowNil 3 1)) ?_
    refine WC.chunks (fun w hS => hS.stepsNil) ?_
    refine WC.chunks (C' := [pt b4 [.bool false, .int .u32 0, .slice none 0 0] 43, rowc (.slice a1 ls.length c1) ls.length 54 1 us, rowc (.slice none 0 0) 0 54 1 [], rowc (.slice none 0 0) 0 3 1 [], stepsC [] [] []]) (fun w hS => (St.pick (St.pick (St.pick (St.pick hS (c := rowc (.slice none 0 0) 0 3 1 []) (by repeat (first | exact Rem.here | apply Rem.there))) (c := rowc (.slice none 0 0) 0 54 1 []) (by repeat (first | exact Rem.here | apply Rem.there))) (c := rowc (.slice a1 ls.length c1) ls.length 54 1 us) (by repeat (first | exact Rem.here | apply Rem.there))) (c := pt b4 [.bool false, .int .u32 0, .slice none 0 0] 43) (by repeat (first | exact Rem.here | apply Rem.there)))) ?_
    refine WC.loop (α := SG) (SInv n ls us r false) (fun g => [(0, .int .i64 (n : Int)), (4, pp b4), (7, .slice g.aa g.nA g.ca), (8, .slice g.ta g.nT g.tc), (9, .slice g.pa g.nP g.pc)]) (fun g => [pt b4 [.bool false, .int .u32 0, .slice none 0 0] 43, rowc (.slice g.aa g.nA g.ca) g.nA 54 1 g.hs, rowc (.slice g.pa g.nP g.pc) g.nP 54 1 g.vs, rowc (.slice g.ta g.nT g.tc) g.nT 3 1 g.ps, stepsC g.F g.vs g.ss]) (fun g => g.f) (⟨f0, [], [], [], us, [], [], a1, none, none, c1, 0, 0, ls.length, 0, 0⟩) ?_ ?_ ?_ ?_
    · exact ⟨by rw [List.append_nil]; exact h, by rw [List.append_nil], rfl, rfl, rfl, rfl, by simp, by simp, by simp, by simp; omega, by simp; omega⟩
    · exact ⟨rfl, rfl, rfl, rfl, rfl, trivial⟩
    · rfl
    rintro ⟨f, path, ss, vs, hs, ps, Fb, aa, pa, ta, ca, pc, tc, nA, nP, nT⟩ hI
    obtain ⟨sol, hhs, hps, hA, hP, hT, hlit, hslit, hslen, hbp, hbs⟩ := hI
    dsimp only at sol hhs hps hA hP hT hlit hslit hslen hbp hbs
    obtain ⟨f, rfl⟩ : ∃ f2, f = f2 + 1 := by cases f with | zero => simp [Fm.solveF] at sol | succ f => exact ⟨f, rfl⟩
    show WC _ _ _ _ _ _ _ [(0, .int .i64 (n : Int)), (4, pp b4), (7, .slice aa nA ca), (8, .slice ta nT tc), (9, .slice pa nP pc)] [pt b4 [.bool false, .int .u32 0, .slice none 0 0] 43, rowc (.slice aa nA ca) nA 54 1 hs, rowc (.slice pa nP pc) nP 54 1 vs, rowc (.slice ta nT tc) nT 3 1 ps, stepsC Fb vs ss]
    simp only [Fm.solveF] at sol
    obtain rfl : nA = (ls ++ ss).length := by rw [hA, List.length_append]
    have hLL : ∀ c ∈ ls ++ ss, ∀ x ∈ c, Lit x := by
      intro c hc
      rcases List.mem_append.1 hc with hc | hc
      · exact hlits c hc
      · exact hslit c hc
    have hLen : ∀ c ∈ ls ++ ss, c.length ≤ 1099511627776 := by
      intro c hc
      rcases List.mem_append.1 hc with hc | hc
      · have := hlens c hc; omega
      · exact hslen c hc
    refine WC.block ?_
    refine WC.seq ?_
    refine WC.region ?_
    refine WL.step ?_
    refine WL.build F.stT103 rfl (by repeat (first | exact Built.nil | apply Built.one rfl rfl (by repeat constructor) | apply Built.agg rfl rfl (by repeat constructor))) rfl ?_
    refine WL.step ?_
    refine WL.alloc F.zero103 rfl (fun b10 => ?_)
    refine WL.step ?_
    refine WL.storeN F.agg103 rfl rfl rfl (by simp [Value.oneCell']) (by repeat (first | exact Upd.here | apply Upd.there)) (by repeat constructor) ?_
    refine WL.nil ?_
    refine WQ.then_normal ?_
    refine WC.seq ?_
    refine WC.seq ?_
    refine WC.region ?_
    refine WL.step ?_
    refine WL.move rfl rfl ?_
    refine WL.step ?_
    refine WL.lenSl F.und54 rfl rfl ?_
    refine WL.step ?_
    refine WL.move rfl rfl ?_
    refine WL.nil ?_
    refine WQ.then_normal ?_
    refine WC.block ?_
    refine WC.loop (α := Nat × Fm.Kn) (fun g => g.1 ≤ nT ∧ KB g.2 ∧ g.2 = (path.take g.1).foldl Fm.withK (0, 0)) (fun g => [(0, .int .i64 (n : Int)), (4, pp b4), (7, .slice aa (ls ++ ss).length ca), (8, .slice ta nT tc), (9, .slice pa nP pc), (10, pp b10), (29, .slice ta nT tc), (30, .int .i64 (nT : Int)), (31, .int .i64 (g.1 : Int))]) (fun g => [pt b10 [.int .u32 (g.2.1 : Int), .int .u32 (g.2.2 : Int)] 103, pt b4 [.bool false, .int .u32 0, .slice none 0 0] 43, rowc (.slice aa (ls ++ ss).length ca) (ls ++ ss).length 54 1 hs, rowc (.slice pa nP pc) nP 54 1 vs, rowc (.slice ta nT tc) nT 3 1 ps, stepsC Fb vs ss]) (fun g => nT - g.1) ((0, (0, 0))) ?_ ?_ ?_ ?_
    · exact ⟨Nat.zero_le _, ⟨by decide, by decide⟩, rfl⟩
    · exact ⟨rfl, rfl, rfl, rfl, rfl, rfl, rfl, rfl, rfl, trivial⟩
    · rfl
    rintro ⟨i, k⟩ ⟨hi, hk, hke⟩
    dsimp only at hi hk hke
    show WC _ _ _ _ _ _ _ [(0, .int .i64 (n : Int)), (4, pp b4), (7, .slice aa (ls ++ ss).length ca), (8, .slice ta nT tc), (9, .slice pa nP pc), (10, pp b10), (29, .slice ta nT tc), (30, .int .i64 (nT : Int)), (31, .int .i64 (i : Int))] [pt b10 [.int .u32 (k.1 : Int), .int .u32 (k.2 : Int)] 103, pt b4 [.bool false, .int .u32 0, .slice none 0 0] 43, rowc (.slice aa (ls ++ ss).length ca) (ls ++ ss).length 54 1 hs, rowc (.slice pa nP pc) nP 54 1 vs, rowc (.slice ta nT tc) nT 3 1 ps, stepsC Fb vs ss]
    refine WC.seq ?_
    refine WC.region ?_
    refine WL.step ?_
    refine WL.ltI rfl rfl rfl ?_
    refine WL.nil ?_
    refine WQ.then_normal ?_
    refine WC.seq ?_
    refine WC.cond rfl (fun h32 => ?_) (fun h32 => ?_)
    · skip
      have hlt : i < nT := by simpa using h32
      obtain ⟨x, hx⟩ : ∃ x, path[i]? = some x := ⟨_, List.getElem?_eq_getElem (by omega)⟩
      have hxl := hlit x (List.mem_of_getElem? hx)
      refine WC.know (φ := ∃ g, ta = some ⟨g, 0, none⟩ ∧ nT = nT ∧ nT ≤ tc) (fun w hS => rowc_addr (hS.ok (rowc (.slice ta nT tc) nT 3 1 ps) (by repeat (first | exact List.Mem.head _ | apply List.Mem.tail))) (by omega)) (fun ⟨g, hta, _, _⟩ => ?_)
      subst hta
      refine WC.skip ?_
      refine WQ.then_normal ?_
      refine WC.seq ?_
      refine WC.block ?_
      refine WC.seq ?_
      refine WC.region ?_
      refine WL.step ?_
      refine WL.indexAddr F.sl54 rfl rfl rfl hlt ?_
      refine WL.step ?_
      refine WL.load1 F.one3 rfl rfl (v := .int .i64 x) (fun w hS => by simpa using rowc_cell (hS.ok (rowc (.slice (some ⟨g, 0, none⟩) nT tc) nT 3 1 ps) (by repeat (first | exact List.Mem.head _ | apply List.Mem.tail))) (u := .int .i64 x) (by rw [hps]; simp [hx])) ?_
      refine WL.step ?_
      refine WL.assign rfl rfl ?_
      refine WL.nil ?_
      refine WQ.then_normal ?_
      refine WC.region ?_
      refine WL.step ?_
      refine WL.loadW F.agg103 rfl rfl (by repeat (first | exact List.Mem.head _ | apply List.Mem.tail)) rfl ?_
      refine WL.step ?_
      refine WL.move rfl rfl ?_
      refine WL.step ?_
      refine WL.callV F.fun63 rfl rfl (fun w _ => with_c k x hk ⟨hxl.1, by omega, by omega⟩ w) ?_
      refine WL.step ?_
      refine WL.storeN F.agg103 rfl rfl rfl (by simp [Value.oneCell']) (by repeat (first | exact Upd.here | apply Upd.there)) (by repeat constructor) ?_
      refine WL.nil ?_
      refine WQ.block_normal ?_
      refine WQ.then_normal ?_
      refine WC.region ?_
      refine WL.step ?_
      refine WL.add rfl rfl rfl ⟨by omega, by omega⟩ ?_
      refine WL.step ?_
      refine WL.move rfl rfl ?_
      refine WL.nil ?_
      refine WQ.back ((i + 1, Fm.withK k x)) ?_ ?_ ?_ ?_
      · exact ⟨by show i + 1 ≤ nT; omega, hk.with ⟨hxl.1, by omega, by omega⟩, by show Fm.withK k x = _; rw [List.take_add_one, hx, List.foldl_append, ← hke]; rfl⟩
      · (show nT - (i + 1) < nT - i; omega)
      · exact ⟨rfl, rfl, rfl, rfl, rfl, rfl, rfl, rfl, rfl, trivial⟩
      · rfl
    · skip
      have hie : nT = i := by simp at h32; omega
      subst hie
      rw [hT, List.take_length] at hke
      refine WC.exit ?_
      refine WQ.then_exit ?_
      refine WQ.then_exit ?_
      refine WQ.block_exit ?_
      refine WQ.then_normal ?_
      refine WC.seq ?_
      rcases hcl : Fm.closedF 65 (ls ++ ss) k with _ | ⟨k1, ok⟩
      · skip
        rw [← hke, hcl] at sol
        cases sol
      · skip
        rw [← hke, hcl] at sol
        have hk1 := closedF_KB hk hLL hcl
        refine WC.region ?_
        refine WL.step ?_
        refine WL.move rfl rfl ?_
        refine WL.step ?_
        refine WL.loadW F.agg103 rfl rfl (by repeat (first | exact List.Mem.head _ | apply List.Mem.tail)) rfl ?_
        refine WL.step ?_
        refine WL.callV F.fun64 rfl rfl (fun w hS => closed_c (ls ++ ss) aa ca hs k 65 (k1, ok) hk hLL hLen (by simp; omega) w (hr.join hS hhs (by rw [List.length_append]) (n := (ls ++ ss).length) (cap := ca) (F := Fb) (vs := vs) (by repeat (first | exact List.Mem.head _ | apply List.Mem.tail)) (by repeat (first | exact List.Mem.head _ | apply List.Mem.tail))) hcl) ?_
        refine WL.step ?_
        refine WL.move rfl rfl ?_
        refine WL.step ?_
        refine WL.extract rfl rfl rfl ?_
        refine WL.step ?_
        refine WL.extract rfl rfl rfl ?_
        refine WL.step ?_
        refine WL.storeN F.agg103 rfl rfl rfl (by simp [Value.oneCell']) (by repeat (first | exact Upd.here | apply Upd.there)) (by repeat constructor) ?_
        refine WL.step ?_
        refine WL.assign rfl rfl ?_
        refine WL.nil ?_
        refine WQ.then_normal ?_
        refine WC.seq ?_
        refine WC.seq ?_
        refine WC.region ?_
        refine WL.step ?_
        refine WL.move rfl rfl ?_
        refine WL.nil ?_
        refine WQ.then_normal ?_
        refine WC.cond rfl (fun h45 => ?_) (fun h45 => ?_)
        · skip
          have hok : ok = true := h45
          subst hok
          simp only at sol
          refine WC.seq ?_
          refine WC.seq ?_
          refine WC.region ?_
          refine WL.step ?_
          refine WL.move rfl rfl ?_
          refine WL.step ?_
          refine WL.assign rfl rfl ?_
          refine WL.nil ?_
          refine WQ.then_normal ?_
          refine WC.block ?_
          refine WC.loop (α := Nat) (fun i => i ≤ n ∧ Fm.openK k1 n = Fm.openK k1 i) (fun i => [(0, .int .i64 (n : Int)), (4, pp b4), (7, .slice aa (ls ++ ss).length ca), (8, .slice ta nT tc), (9, .slice pa nP pc), (10, pp b10), (14, .int .i64 (i : Int))]) (fun _ => [pt b10 [.int .u32 (k1.1 : Int), .int .u32 (k1.2 : Int)] 103, pt b4 [.bool false, .int .u32 0, .slice none 0 0] 43, rowc (.slice aa (ls ++ ss).length ca) (ls ++ ss).length 54 1 hs, rowc (.slice pa nP pc) nP 54 1 vs, rowc (.slice ta nT tc) nT 3 1 ps, stepsC Fb vs ss]) (fun i => i) (n) ?_ ?_ ?_ ?_
          · exact ⟨Nat.le_refl _, rfl⟩
          · exact ⟨rfl, rfl, rfl, rfl, rfl, rfl, rfl, trivial⟩
          · rfl
          rintro i ⟨hi, hop⟩
          refine WC.seq ?_
          refine WC.seq ?_
          refine WC.region ?_
          refine WL.step ?_
          refine WL.move rfl rfl ?_
          refine WL.step ?_
          refine WL.gtI rfl rfl rfl ?_
          refine WL.nil ?_
          refine WQ.then_normal ?_
          refine WC.cond rfl (fun h48 => ?_) (fun h48 => ?_)
          · skip
            have hi0 : 0 < i := by simp at h48; omega
            have hLi : Lit (i : Int) := ⟨by omega, by omega, by omega⟩
            have hLn : Lit (-(i : Int)) := ⟨by omega, by omega, by omega⟩
            have hok2 : Fm.openK k1 i = if !Fm.hasK k1 (i : Int) && !Fm.hasK k1 (-(i : Int)) then i else Fm.openK k1 (i - 1) := by
              obtain ⟨j, rfl⟩ : ∃ j, i = j + 1 := ⟨i - 1, by omega⟩
              simp only [Fm.openK, Nat.add_sub_cancel]
            refine WC.skip ?_
            refine WQ.then_normal ?_
            refine WC.seq ?_
            refine WC.block ?_
            refine WC.seq ?_
            refine WC.region ?_
            refine WL.step ?_
            refine WL.loadW F.agg103 rfl rfl (by repeat (first | exact List.Mem.head _ | apply List.Mem.tail)) rfl ?_
            refine WL.step ?_
            refine WL.move rfl rfl ?_
            refine WL.step ?_
            refine WL.callV F.fun65 rfl rfl (fun w _ => has_c k1 _ hk1 hLi w) ?_
            refine WL.step ?_
            refine WL.not rfl rfl ?_
            refine WL.step ?_
            refine WL.move rfl rfl ?_
            refine WA.splitB (i := 55) rfl (fun h55 => ?_) (fun h55 => ?_)
            · skip
              refine WL.step (WL.guardT rfl rfl rfl ?_)
              refine WL.loadW F.agg103 rfl rfl (by repeat (first | exact List.Mem.head _ | apply List.Mem.tail)) rfl ?_
              refine WL.step (WL.guardT rfl rfl rfl ?_)
              refine WL.move rfl rfl ?_
              refine WL.step (WL.guardT rfl rfl rfl ?_)
              refine WL.negI rfl rfl (by omega) ?_
              refine WL.step (WL.guardT rfl rfl rfl ?_)
              refine WL.callV F.fun65 rfl rfl (fun w _ => has_c k1 _ hk1 hLn w) ?_
              refine WL.step (WL.guardT rfl rfl rfl ?_)
              refine WL.not rfl rfl ?_
              refine WL.step ?_
              refine WL.pickT rfl rfl rfl ?_
              refine WL.nil ?_
              refine WQ.then_normal ?_
              refine WC.cond rfl (fun h61 => ?_) (fun h61 => ?_)
              · skip
                have hoi : Fm.openK k1 n = i := by rw [hop, hok2, h55, h61]; rfl
                rw [if_neg (by rw [hoi]; omega), hoi] at sol
                refine WC.seq ?_
                refine WC.region ?_
                refine WL.step ?_
                refine WL.move rfl rfl ?_
                refine WL.step ?_
                refine WL.move rfl rfl ?_
                refine WL.step ?_
                refine WL.negI rfl rfl (by omega) ?_
                refine WL.step ?_
                refine WL.buildSlice F.sl54 F.ez54 rfl rfl rfl rfl (by repeat (first | exact Built.nil | apply Built.one rfl rfl (by repeat constructor) | apply Built.agg rfl rfl (by repeat constructor))) rfl (fun b65 => ?_)
                refine WL.step ?_
                refine WL.appendE (news := [.int .i64 (-(i : Int))]) F.el54 rfl rfl rfl (by repeat (first | exact Rem.here | apply Rem.there)) (fun w hS j u hu => by rw [Nat.zero_add]; exact hS.cell (cs := [.int .i64 (-(i : Int))]) (by repeat (first | exact List.Mem.head _ | apply List.Mem.tail)) hu) rfl (by simp [Value.oneCell']) (Nat.le_trans (m := 1099511627776) (by omega) (by decide)) (by omega) (fun a3 c3 => ?_)
                refine WL.step ?_
                refine WL.assign rfl rfl ?_
                refine WL.nil ?_
                refine WQ.then_normal ?_
                refine WC.exit ?_
                refine WQ.block_other rfl ?_
                refine WQ.then_exit ?_
                refine WQ.then_exit ?_
                refine WQ.block_other rfl ?_
                refine WQ.then_exit ?_
                refine WQ.then_exit ?_
                refine WQ.block_exit ?_
                refine WQ.chunks (C' := [pt b4 [.bool false, .int .u32 0, .slice none 0 0] 43, rowc (.slice aa (ls ++ ss).length ca) (ls ++ ss).length 54 1 hs, rowc (.slice pa nP pc) nP 54 1 vs, rowc (.slice a3 (nT + 1) c3) (nT + 1) 3 1 (ps ++ [.int .i64 (-(i : Int))]), stepsC Fb vs ss]) (fun w hS => ((St.pick (St.pick (St.pick (St.pick (St.pick hS (c := stepsC Fb vs ss) (by repeat (first | exact Rem.here | apply Rem.there))) (c := rowc (.slice a3 (nT + 1) c3) (nT + 1) 3 1 (ps ++ [.int .i64 (-(i : Int))])) (by repeat (first | exact Rem.here | apply Rem.there))) (c := rowc (.slice pa nP pc) nP 54 1 vs) (by repeat (first | exact Rem.here | apply Rem.there))) (c := rowc (.slice aa (ls ++ ss).length ca) (ls ++ ss).length 54 1 hs) (by repeat (first | exact Rem.here | apply Rem.there))) (c := pt b4 [.bool false, .int .u32 0, .slice none 0 0] 43) (by repeat (first | exact Rem.here | apply Rem.there)))).sublist (List.Sublist.cons_cons _ (List.Sublist.cons_cons _ (List.Sublist.cons_cons _ (List.Sublist.cons_cons _ (List.Sublist.cons_cons _ (List.nil_sublist _))))))) ?_
                refine WQ.back (⟨f, path ++ [-(i : Int)], ss, vs, hs, ps ++ [.int .i64 (-(i : Int))], Fb, aa, pa, a3, ca, pc, c3, (ls ++ ss).length, nP, nT + 1⟩) ?_ ?_ ?_ ?_
                · exact ⟨sol, hhs, by show ps ++ _ = (path ++ _).map _; rw [hps]; simp, by show (ls ++ ss).length = _; rw [List.length_append], hP, by show nT + 1 = (path ++ [_]).length; rw [hT]; simp, by intro x hx; rcases List.mem_append.1 hx with hx | hx; exact hlit x hx; simp at hx; subst hx; exact ⟨by omega, by omega, by omega⟩, hslit, hslen, by show (path ++ [_]).length + f ≤ _; simp; omega, by show ss.length + f ≤ _; omega⟩
                · exact Nat.lt_succ_self f
                · exact ⟨rfl, rfl, rfl, rfl, rfl, trivial⟩
                · rfl
              · skip
                have hop2 : Fm.openK k1 n = Fm.openK k1 (i - 1) := by rw [hop, hok2, h55, h61]; rfl
                refine WC.skip ?_
                refine WQ.block_normal ?_
                refine WQ.then_normal ?_
                refine WC.region ?_
                refine WL.step ?_
                refine WL.move rfl rfl ?_
                refine WL.step ?_
                refine WL.sub rfl rfl rfl ⟨by omega, by omega⟩ ?_
                refine WL.step ?_
                refine WL.assign rfl rfl ?_
                refine WL.nil ?_
                obtain ⟨i, rfl⟩ : ∃ i2, i = i2 + 1 := ⟨i - 1, by omega⟩
                rw [show (((i + 1 : Nat) : Int) - 1) = (i : Int) by omega]
                refine WQ.back (i) ?_ ?_ ?_ ?_
                · exact ⟨by omega, hop2⟩
                · omega
                · exact ⟨rfl, rfl, rfl, rfl, rfl, rfl, rfl, trivial⟩
                · rfl
            · skip
              have hop2 : Fm.openK k1 n = Fm.openK k1 (i - 1) := by rw [hop, hok2, h55]; rfl
              refine WL.step (WL.guardF rfl rfl rfl rfl rfl rfl ?_)
              refine WL.step (WL.guardF rfl rfl rfl rfl rfl rfl ?_)
              refine WL.step (WL.guardF rfl rfl rfl rfl rfl rfl ?_)
              refine WL.step (WL.guardF rfl rfl rfl rfl rfl rfl ?_)
              refine WL.step (WL.guardF rfl rfl rfl rfl rfl rfl ?_)
              refine WL.step ?_
              refine WL.pickF rfl rfl rfl ?_
              refine WL.nil ?_
              refine WQ.then_normal ?_
              refine WC.condF rfl ?_
              refine WC.skip ?_
              refine WQ.block_normal ?_
              refine WQ.then_normal ?_
              refine WC.region ?_
              refine WL.step ?_
              refine WL.move rfl rfl ?_
              refine WL.step ?_
              refine WL.sub rfl rfl rfl ⟨by omega, by omega⟩ ?_
              refine WL.step ?_
              refine WL.assign rfl rfl ?_
              refine WL.nil ?_
              obtain ⟨i, rfl⟩ : ∃ i2, i = i2 + 1 := ⟨i - 1, by omega⟩
              rw [show (((i + 1 : Nat) : Int) - 1) = (i : Int) by omega]
              refine WQ.back (i) ?_ ?_ ?_ ?_
              · exact ⟨by omega, hop2⟩
              · omega
              · exact ⟨rfl, rfl, rfl, rfl, rfl, rfl, rfl, trivial⟩
              · rfl
          · skip
            have hi0 : i = 0 := by simp at h48; omega
            subst hi0
            have hop0 : Fm.openK k1 n = 0 := hop
            rw [if_pos hop0] at sol
            injection sol with sol
            refine WC.exit ?_
            refine WQ.then_exit ?_
            refine WQ.then_exit ?_
            refine WQ.block_exit ?_
            refine WQ.then_normal ?_
            refine WC.seq ?_
            refine WC.region ?_
            refine WL.step ?_
            refine WL.fieldAddr0 F.fld103_0 rfl rfl ?_
            refine WL.step ?_
            refine WL.loadP F.one41 rfl rfl (by repeat (first | exact List.Mem.head _ | apply List.Mem.tail)) rfl ?_
            refine WL.step ?_
            refine WL.build F.stT43 rfl (by repeat (first | exact Built.nil | apply Built.one rfl rfl (by repeat constructor) | apply Built.agg rfl rfl (by repeat constructor))) rfl ?_
            refine WL.step ?_
            refine WL.storeN F.agg43 rfl rfl rfl (by simp [Value.oneCell']) (by repeat (first | exact Upd.here | apply Upd.there)) (by repeat constructor) ?_
            refine WL.step ?_
            refine WL.assign rfl rfl ?_
            refine WL.nil ?_
            refine WQ.then_normal ?_
            refine WC.ret ?_
            refine WQ.then_ret ?_
            refine WQ.block_ret ?_
            refine WQ.then_ret ?_
            refine WQ.block_ret ?_
            refine WQ.scope_ret ?_
            refine WQ.ret (rs := [.cell 4 43, .tmp 5]) rfl (.cellN F.agg43 rfl (by repeat (first | exact List.Mem.head _ | apply List.Mem.tail)) rfl (.tmp rfl .nil)) (fun w hS => .inr ⟨hme, (none, 0), [], [], ?_, ?_⟩)
            · rw [← sol]; rfl
            · rw [← sol]; exact (((hS.sublist (List.nil_sublist _)).stepsNil).rowNil 54 1)
        · skip
          have hok : ok = false := h45
          subst hok
          simp only at sol
          refine WC.skip ?_
          refine WQ.then_normal ?_
          refine WC.block ?_
          obtain ⟨fo, hfo0⟩ : ∃ fo, fo = f := ⟨_, rfl⟩
          refine WC.chunks (C' := [pt b4 [.bool false, .int .u32 0, .slice none 0 0] 43, rowc (.slice aa (ls ++ ss).length ca) (ls ++ ss).length 54 1 hs, rowc (.slice pa nP pc) nP 54 1 vs, rowc (.slice ta nT tc) nT 3 1 ps, stepsC Fb vs ss]) (fun w hS => ((St.pick (St.pick (St.pick (St.pick (St.pick hS (c := stepsC Fb vs ss) (by repeat (first | exact Rem.here | apply Rem.there))) (c := rowc (.slice ta nT tc) nT 3 1 ps) (by repeat (first | exact Rem.here | apply Rem.there))) (c := rowc (.slice pa nP pc) nP 54 1 vs) (by repeat (first | exact Rem.here | apply Rem.there))) (c := rowc (.slice aa (ls ++ ss).length ca) (ls ++ ss).length 54 1 hs) (by repeat (first | exact Rem.here | apply Rem.there))) (c := pt b4 [.bool false, .int .u32 0, .slice none 0 0] 43) (by repeat (first | exact Rem.here | apply Rem.there)))).sublist (List.Sublist.cons_cons _ (List.Sublist.cons_cons _ (List.Sublist.cons_cons _ (List.Sublist.cons_cons _ (List.Sublist.cons_cons _ (List.nil_sublist _))))))) ?_
          refine WC.loop (α := SG) (fun g => SInv n ls us r true g ∧ g.f ≤ fo) (fun g => [(0, .int .i64 (n : Int)), (4, pp b4), (7, .slice g.aa g.nA g.ca), (8, .slice g.ta g.nT g.tc), (9, .slice g.pa g.nP g.pc)]) (fun g => [pt b4 [.bool false, .int .u32 0, .slice none 0 0] 43, rowc (.slice g.aa g.nA g.ca) g.nA 54 1 g.hs, rowc (.slice g.pa g.nP g.pc) g.nP 54 1 g.vs, rowc (.slice g.ta g.nT g.tc) g.nT 3 1 g.ps, stepsC g.F g.vs g.ss]) (fun g => g.f) (⟨f, path, ss, vs, hs, ps, Fb, aa, pa, ta, ca, pc, tc, (ls ++ ss).length, nP, nT⟩) ?_ ?_ ?_ ?_
          · exact ⟨⟨sol, hhs, hps, by show (ls ++ ss).length = _; rw [List.length_append], hP, hT, hlit, hslit, hslen, by show path.length + f ≤ _; omega, by show ss.length + f ≤ _; omega⟩, by show f ≤ fo; omega⟩
          · exact ⟨rfl, rfl, rfl, rfl, rfl, trivial⟩
          · rfl
          rintro ⟨f, path, ss, vs, hs, ps, Fb, aa, pa, ta, ca, pc, tc, nA, nP, nT⟩ ⟨hI, hfo⟩
          dsimp only at hfo
          obtain ⟨sol, hhs, hps, hA, hP, hT, hlit, hslit, hslen, hbp, hbs⟩ := hI
          dsimp only at sol hhs hps hA hP hT hlit hslit hslen hbp hbs
          obtain ⟨f, rfl⟩ : ∃ f2, f = f2 + 1 := by cases f with | zero => simp [Fm.solveF] at sol | succ f => exact ⟨f, rfl⟩
          show WC _ _ _ _ _ _ _ [(0, .int .i64 (n : Int)), (4, pp b4), (7, .slice aa nA ca), (8, .slice ta nT tc), (9, .slice pa nP pc)] [pt b4 [.bool false, .int .u32 0, .slice none 0 0] 43, rowc (.slice aa nA ca) nA 54 1 hs, rowc (.slice pa nP pc) nP 54 1 vs, rowc (.slice ta nT tc) nT 3 1 ps, stepsC Fb vs ss]
          rw [solveF_true] at sol
          refine WC.block ?_
          refine WC.seq ?_
          refine WC.region ?_
          refine WL.step ?_
          refine WL.move rfl rfl ?_
          refine WL.step ?_
          refine WL.lenSl F.und54 rfl rfl ?_
          refine WL.step ?_
          refine WL.makeSlice F.und54 F.info3 rfl rfl rfl rfl (by omega) (by omega) (fun b72 => ?_)
          rw [← stepAt_zero hT]
          refine WL.step ?_
          refine WL.assign rfl rfl ?_
          refine WL.nil ?_
          refine WQ.then_normal ?_
          refine WC.seq ?_
          refine WC.seq ?_
          refine WC.region ?_
          refine WL.step ?_
          refine WL.move rfl rfl ?_
          refine WL.step ?_
          refine WL.lenSl F.und54 rfl rfl ?_
          refine WL.step ?_
          refine WL.move rfl rfl ?_
          refine WL.nil ?_
          refine WQ.then_normal ?_
          refine WC.block ?_
          refine WC.loop (α := Nat) (fun i => i ≤ nT) (fun i => [(0, .int .i64 (n : Int)), (4, pp b4), (7, .slice aa nA ca), (8, .slice ta nT tc), (9, .slice pa nP pc), (15, .slice (some ⟨b72, 0, none⟩) nT nT), (73, .slice ta nT tc), (74, .int .i64 (nT : Int)), (75, .int .i64 (i : Int))]) (fun i => [pt b72 (stepAt path i) 3, pt b4 [.bool false, .int .u32 0, .slice none 0 0] 43, rowc (.slice aa nA ca) nA 54 1 hs, rowc (.slice pa nP pc) nP 54 1 vs, rowc (.slice ta nT tc) nT 3 1 ps, stepsC Fb vs ss]) (fun i => nT - i) (0) ?_ ?_ ?_ ?_
          · exact Nat.zero_le _
          · exact ⟨rfl, rfl, rfl, rfl, rfl, rfl, rfl, rfl, rfl, trivial⟩
          · rfl
          rintro i hi
          refine WC.seq ?_
          refine WC.region ?_
          refine WL.step ?_
          refine WL.ltI rfl rfl rfl ?_
          refine WL.nil ?_
          refine WQ.then_normal ?_
          refine WC.seq ?_
          refine WC.cond rfl (fun h76 => ?_) (fun h76 => ?_)
          · skip
            have hlt : i < nT := by simpa using h76
            obtain ⟨x, hx⟩ : ∃ x, path[i]? = some x := ⟨_, List.getElem?_eq_getElem (by omega)⟩
            have hxl := hlit x (List.mem_of_getElem? hx)
            refine WC.know (φ := ∃ g, ta = some ⟨g, 0, none⟩ ∧ nT = nT ∧ nT ≤ tc) (fun w hS => rowc_addr (hS.ok (rowc (.slice ta nT tc) nT 3 1 ps) (by repeat (first | exact List.Mem.head _ | apply List.Mem.tail))) (by omega)) (fun ⟨g, hta, _, _⟩ => ?_)
            subst hta
            refine WC.skip ?_
            refine WQ.then_normal ?_
            refine WC.seq ?_
            refine WC.block ?_
            refine WC.seq ?_
            refine WC.region ?_
            refine WL.step ?_
            refine WL.move rfl rfl ?_
            refine WL.step ?_
            refine WL.indexAddr F.sl54 rfl rfl rfl hlt ?_
            refine WL.step ?_
            refine WL.load1 F.one3 rfl rfl (v := .int .i64 x) (fun w hS => by simpa using rowc_cell (hS.ok (rowc (.slice (some ⟨g, 0, none⟩) nT tc) nT 3 1 ps) (by repeat (first | exact List.Mem.head _ | apply List.Mem.tail))) (u := .int .i64 x) (by rw [hps]; simp [hx])) ?_
            refine WL.step ?_
            refine WL.assign rfl rfl ?_
            refine WL.step ?_
            refine WL.assign rfl rfl ?_
            refine WL.nil ?_
            refine WQ.then_normal ?_
            refine WC.region ?_
            refine WL.step ?_
            refine WL.move rfl rfl ?_
            refine WL.step ?_
            refine WL.move rfl rfl ?_
            refine WL.step ?_
            refine WL.move rfl rfl ?_
            refine WL.step ?_
            refine WL.negI rfl rfl (by omega) ?_
            refine WL.step ?_
            refine WL.indexAddr F.sl54 rfl rfl rfl hlt ?_
            refine WL.step ?_
            refine WL.store1 (cs := stepAt path i) (cs' := stepAt path (i + 1)) F.one3 rfl rfl rfl (by repeat (first | exact Upd.here | apply Upd.there)) (by have h9 := setN_set (stepAt path i) i (.int .i64 (-x)) (by rw [stepAt_len (by omega)]; omega); rw [stepAt_set hx] at h9; simpa using h9) ?_
            refine WL.nil ?_
            refine WQ.block_normal ?_
            refine WQ.then_normal ?_
            refine WC.region ?_
            refine WL.step ?_
            refine WL.add rfl rfl rfl ⟨by omega, by omega⟩ ?_
            refine WL.step ?_
            refine WL.move rfl rfl ?_
            refine WL.nil ?_
            refine WQ.back (i + 1) ?_ ?_ ?_ ?_
            · exact by omega
            · omega
            · exact ⟨rfl, rfl, rfl, rfl, rfl, rfl, rfl, rfl, rfl, trivial⟩
            · rfl
          · skip
            have hie : i = nT := by simp at h76; omega
            subst hie
            have hse : stepAt path i = (path.map (fun x => -x)).map (Value.int .i64) := by rw [hT]; exact stepAt_end
            have hcl : (path.map (fun x => -x)).length = i := by simp [hT]
            refine WC.exit ?_
            refine WQ.then_exit ?_
            refine WQ.then_exit ?_
            refine WQ.block_exit ?_
            refine WQ.then_normal ?_
            refine WC.seq ?_
            refine WC.region ?_
            refine WL.step ?_
            refine WL.move rfl rfl ?_
            refine WL.step ?_
            refine WL.move rfl rfl ?_
            refine WL.step ?_
            refine WL.buildSlice F.sl38 F.ez38 rfl rfl rfl rfl (by repeat (first | exact Built.nil | apply Built.one rfl rfl (by repeat constructor) | apply Built.agg rfl rfl (by repeat constructor))) rfl (fun b88 => ?_)
            refine WL.step ?_
            refine WL.appendE (news := [Value.slice (some ⟨b72, 0, none⟩) i i]) F.el38 rfl rfl rfl (by repeat (first | exact Rem.here | apply Rem.there)) (fun w hS j u hu => by rw [Nat.zero_add]; exact hS.cell (cs := [Value.slice (some ⟨b72, 0, none⟩) i i]) (by repeat (first | exact List.Mem.head _ | apply List.Mem.tail)) hu) rfl (by simp [Value.oneCell']) (Nat.le_trans (m := 1099511627776) (by omega) (by decide)) (by omega) (fun a4 c4 => ?_)
            refine WL.step ?_
            refine WL.assign rfl rfl ?_
            refine WL.nil ?_
            refine WQ.then_normal ?_
            refine WC.seq ?_
            refine WC.region ?_
            refine WL.step ?_
            refine WL.move rfl rfl ?_
            refine WL.step ?_
            refine WL.move rfl rfl ?_
            refine WL.step ?_
            refine WL.buildSlice F.sl38 F.ez38 rfl rfl rfl rfl (by repeat (first | exact Built.nil | apply Built.one rfl rfl (by repeat constructor) | apply Built.agg rfl rfl (by repeat constructor))) rfl (fun b92 => ?_)
            refine WL.step ?_
            refine WL.appendE (news := [Value.slice (some ⟨b72, 0, none⟩) i i]) F.el38 rfl rfl rfl (by repeat (first | exact Rem.here | apply Rem.there)) (fun w hS j u hu => by rw [Nat.zero_add]; exact hS.cell (cs := [Value.slice (some ⟨b72, 0, none⟩) i i]) (by repeat (first | exact List.Mem.head _ | apply List.Mem.tail)) hu) rfl (by simp [Value.oneCell']) (Nat.le_trans (m := 1099511627776) (by omega) (by decide)) (by omega) (fun a5 c5 => ?_)
            refine WL.step ?_
            refine WL.assign rfl rfl ?_
            refine WA.chunks (C' := [pt b4 [.bool false, .int .u32 0, .slice none 0 0] 43, rowc (.slice a5 (nA + 1) c5) (nA + 1) 54 1 (hs ++ [Value.slice (some ⟨b72, 0, none⟩) i i]), rowc (.slice a4 (nP + 1) c4) (nP + 1) 54 1 (vs ++ [Value.slice (some ⟨b72, 0, none⟩) i i]), rowc (.slice ta i tc) i 3 1 ps, stepsC (b72 :: Fb) (vs ++ [Value.slice (some ⟨b72, 0, none⟩) i i]) (ss ++ [(path.map (fun x => -x))])]) (fun w hS => ?_) ?_
            · rw [hse] at hS
              have h9 := St.stepsSnoc (St.pick (St.pick hS (c := pt b72 ((path.map (fun x => -x)).map (Value.int .i64)) 3) (by repeat (first | exact Rem.here | apply Rem.there))) (c := stepsC Fb vs ss) (by repeat (first | exact Rem.here | apply Rem.there)))
              rw [hcl] at h9
              exact ((St.pick (St.pick (St.pick (St.pick (St.pick h9 (c := stepsC (b72 :: Fb) (vs ++ [Value.slice (some ⟨b72, 0, none⟩) i i]) (ss ++ [(path.map (fun x => -x))])) (by repeat (first | exact Rem.here | apply Rem.there))) (c := rowc (.slice ta i tc) i 3 1 ps) (by repeat (first | exact Rem.here | apply Rem.there))) (c := rowc (.slice a4 (nP + 1) c4) (nP + 1) 54 1 (vs ++ [Value.slice (some ⟨b72, 0, none⟩) i i])) (by repeat (first | exact Rem.here | apply Rem.there))) (c := rowc (.slice a5 (nA + 1) c5) (nA + 1) 54 1 (hs ++ [Value.slice (some ⟨b72, 0, none⟩) i i])) (by repeat (first | exact Rem.here | apply Rem.there))) (c := pt b4 [.bool false, .int .u32 0, .slice none 0 0] 43) (by repeat (first | exact Rem.here | apply Rem.there)))).sublist (List.Sublist.cons_cons _ (List.Sublist.cons_cons _ (List.Sublist.cons_cons _ (List.Sublist.cons_cons _ (List.Sublist.cons_cons _ (List.nil_sublist _))))))
            refine WL.nil ?_
            refine WQ.then_normal ?_
            refine WC.seq ?_
            refine WC.seq ?_
            refine WC.region ?_
            refine WL.step ?_
            refine WL.move rfl rfl ?_
            refine WL.step ?_
            refine WL.lenSl F.und54 rfl rfl ?_
            refine WL.step ?_
            refine WL.eqI rfl rfl rfl ?_
            refine WL.nil ?_
            refine WQ.then_normal ?_
            refine WC.cond rfl (fun h96 => ?_) (fun h96 => ?_)
            · skip
              have hp0 : path = [] := List.eq_nil_of_length_eq_zero (by simp at h96; omega)
              subst hp0
              simp only [List.getLast?_nil] at sol
              injection sol with sol
              refine WC.seq ?_
              refine WC.region ?_
              refine WL.step ?_
              refine WL.move rfl rfl ?_
              refine WL.step ?_
              refine WL.build F.stT43 rfl (by repeat (first | exact Built.nil | apply Built.one rfl rfl (by repeat constructor) | apply Built.agg rfl rfl (by repeat constructor))) rfl ?_
              refine WL.step ?_
              refine WL.storeN F.agg43 rfl rfl rfl (by simp [Value.oneCell']) (by repeat (first | exact Upd.here | apply Upd.there)) (by repeat constructor) ?_
              refine WL.step ?_
              refine WL.assign rfl rfl ?_
              refine WL.nil ?_
              refine WQ.then_normal ?_
              refine WC.ret ?_
              refine WQ.then_ret ?_
              refine WQ.block_ret ?_
              refine WQ.then_ret ?_
              refine WQ.block_ret ?_
              refine WQ.block_ret ?_
              refine WQ.then_ret ?_
              refine WQ.block_ret ?_
              refine WQ.scope_ret ?_
              refine WQ.ret (rs := [.cell 4 43, .tmp 5]) rfl (.cellN F.agg43 rfl (by repeat (first | exact List.Mem.head _ | apply List.Mem.tail)) rfl (.tmp rfl .nil)) (fun w hS => .inr ⟨hme, (a4, c4), b72 :: Fb, vs ++ [Value.slice (some ⟨b72, 0, none⟩) i i], ?_, ?_⟩)
              · have hpl : nP + 1 = r.proof.length := by rw [← sol, hP]; simp
                rw [← hpl, ← sol]; rfl
              · have hpl : nP + 1 = r.proof.length := by rw [← sol, hP]; simp
                have h9 := ((St.pick (St.pick hS (c := stepsC (b72 :: Fb) (vs ++ [Value.slice (some ⟨b72, 0, none⟩) i i]) (ss ++ [([] : List Int).map (fun x => -x)])) (by repeat (first | exact Rem.here | apply Rem.there))) (c := rowc (.slice a4 (nP + 1) c4) (nP + 1) 54 1 (vs ++ [Value.slice (some ⟨b72, 0, none⟩) i i])) (by repeat (first | exact Rem.here | apply Rem.there)))).two2
                rw [← hpl, ← sol]; exact h9
            · skip
              have hp0 : path ≠ [] := by (intro h0; rw [h0] at hT; simp at h96 hT; omega)
              obtain ⟨last, hlast⟩ : ∃ x, path.getLast? = some x := ⟨_, List.getLast?_eq_some_getLast hp0⟩
              rw [hlast] at sol
              simp only at sol
              obtain ⟨hli, hpos⟩ := last_at hT hlast
              have hll := hlit last (List.mem_of_getLast? hlast)
              refine WC.know (φ := ∃ g, ta = some ⟨g, 0, none⟩ ∧ i = i ∧ i ≤ tc) (fun w hS => rowc_addr (hS.ok (rowc (.slice ta i tc) i 3 1 ps) (by repeat (first | exact List.Mem.head _ | apply List.Mem.tail))) hpos) (fun ⟨g, hta, _, htc⟩ => ?_)
              subst hta
              have htk : ps.take (i - 1) = path.dropLast.map (Value.int .i64) := by rw [hps, ← List.map_take, List.dropLast_eq_take, hT]
              have hslit5 : ∀ c ∈ ss ++ [(path.map (fun x => -x))], ∀ x ∈ c, Lit x := by
                intro c hc x hx
                rcases List.mem_append.1 hc with hc | hc
                · exact hslit c hc x hx
                · simp only [List.mem_singleton] at hc
                  subst hc
                  obtain ⟨y, hy, hyx⟩ := List.mem_map.1 hx
                  rw [← hyx]; exact Lit.neg (hlit y hy)
              have hslen5 : ∀ c ∈ ss ++ [(path.map (fun x => -x))], c.length ≤ 1099511627776 := by
                intro c hc
                rcases List.mem_append.1 hc with hc | hc
                · exact hslen c hc
                · simp only [List.mem_singleton] at hc
                  subst hc
                  simp; omega
              have hbs5 : (ss ++ [(path.map (fun x => -x))]).length + f ≤ 1073741824 := by simp; omega
              have hdl : path.dropLast.length = i - 1 := by simp [hT]
              refine WC.skip ?_
              refine WQ.then_normal ?_
              refine WC.seq ?_
              refine WC.region ?_
              refine WL.step ?_
              refine WL.move rfl rfl ?_
              refine WL.step ?_
              refine WL.move rfl rfl ?_
              refine WL.step ?_
              refine WL.lenSl F.und54 rfl rfl ?_
              refine WL.step ?_
              refine WL.sub rfl rfl rfl ⟨by omega, by omega⟩ ?_
              refine WA.say 102 (.int .i64 ((i - 1 : Nat) : Int)) (congrArg (fun z => some (Value.int .i64 z)) (show (i : Int) - 1 = ((i - 1 : Nat) : Int) by omega)) ?_
              refine WL.step ?_
              refine WL.indexAddr F.sl54 rfl rfl rfl (i := i - 1) (by omega) ?_
              refine WL.step ?_
              refine WL.load1 F.one3 rfl rfl (v := .int .i64 last) (fun w hS => by simpa using rowc_cell (hS.ok (rowc (.slice (some ⟨g, 0, none⟩) i tc) i 3 1 ps) (by repeat (first | exact List.Mem.head _ | apply List.Mem.tail))) (u := .int .i64 last) (by rw [hps]; simp [hli])) ?_
              refine WL.step ?_
              refine WL.assign rfl rfl ?_
              refine WL.nil ?_
              refine WQ.then_normal ?_
              refine WC.seq ?_
              refine WC.region ?_
              refine WL.step ?_
              refine WL.move rfl rfl ?_
              refine WL.step ?_
              refine WL.move rfl rfl ?_
              refine WL.step ?_
              refine WL.lenSl F.und54 rfl rfl ?_
              refine WL.step ?_
              refine WL.sub rfl rfl rfl ⟨by omega, by omega⟩ ?_
              refine WA.say 108 (.int .i64 ((i - 1 : Nat) : Int)) (congrArg (fun z => some (Value.int .i64 z)) (show (i : Int) - 1 = ((i - 1 : Nat) : Int) by omega)) ?_
              refine WL.step ?_
              refine WL.y (F := fun _ => True) (Yl.sliceSlTo (n := i - 1) F.sl54 rfl rfl (by omega)) rfl (fun _ _ => trivial) ?_
              refine WL.step ?_
              refine WL.assign rfl rfl ?_
              refine WA.chunks (fun w hS => (St.rowTake (St.pick hS (c := rowc (.slice (some ⟨g, 0, none⟩) i tc) i 3 1 ps) (by repeat (first | exact Rem.here | apply Rem.there))) hpos (k := i - 1) (by omega))) ?_
              refine WL.nil ?_
              refine WQ.then_normal ?_
              refine WC.seq ?_
              refine WC.region ?_
              refine WL.step ?_
              refine WL.move rfl rfl ?_
              refine WL.step ?_
              refine WL.ltI rfl rfl rfl ?_
              refine WL.nil ?_
              refine WQ.then_normal ?_
              refine WC.cond rfl (fun h111 => ?_) (fun h111 => ?_)
              · skip
                have hneg : last < 0 := by simpa using h111
                rw [if_pos hneg, List.append_assoc] at sol
                refine WC.seq ?_
                refine WC.region ?_
                refine WL.step ?_
                refine WL.move rfl rfl ?_
                refine WL.step ?_
                refine WL.move rfl rfl ?_
                refine WL.step ?_
                refine WL.negI rfl rfl (by omega) ?_
                refine WL.step ?_
                refine WL.buildSlice F.sl54 F.ez54 rfl rfl rfl rfl (by repeat (first | exact Built.nil | apply Built.one rfl rfl (by repeat constructor) | apply Built.agg rfl rfl (by repeat constructor))) rfl (fun b115 => ?_)
                refine WL.step ?_
                refine WL.appendE (news := [.int .i64 (-last)]) F.el54 rfl rfl rfl (by repeat (first | exact Rem.here | apply Rem.there)) (fun w hS j u hu => by rw [Nat.zero_add]; exact hS.cell (cs := [.int .i64 (-last)]) (by repeat (first | exact List.Mem.head _ | apply List.Mem.tail)) hu) rfl (by simp [Value.oneCell']) (Nat.le_trans (m := 1099511627776) (by omega) (by decide)) (by omega) (fun a6 c6 => ?_)
                refine WL.step ?_
                refine WL.assign rfl rfl ?_
                refine WL.nil ?_
                refine WQ.then_normal ?_
                refine WC.exit ?_
                refine WQ.block_other rfl ?_
                refine WQ.then_exit ?_
                refine WQ.block_other rfl ?_
                refine WQ.block_exit ?_
                refine WQ.chunks (C' := [pt b4 [.bool false, .int .u32 0, .slice none 0 0] 43, rowc (.slice a5 (nA + 1) c5) (nA + 1) 54 1 (hs ++ [Value.slice (some ⟨b72, 0, none⟩) i i]), rowc (.slice a4 (nP + 1) c4) (nP + 1) 54 1 (vs ++ [Value.slice (some ⟨b72, 0, none⟩) i i]), rowc (.slice a6 (i - 1 + 1) c6) (i - 1 + 1) 3 1 (ps.take (i - 1) ++ [.int .i64 (-last)]), stepsC (b72 :: Fb) (vs ++ [Value.slice (some ⟨b72, 0, none⟩) i i]) (ss ++ [(path.map (fun x => -x))])]) (fun w hS => ((St.pick (St.pick (St.pick (St.pick (St.pick hS (c := stepsC (b72 :: Fb) (vs ++ [Value.slice (some ⟨b72, 0, none⟩) i i]) (ss ++ [(path.map (fun x => -x))])) (by repeat (first | exact Rem.here | apply Rem.there))) (c := rowc (.slice a6 (i - 1 + 1) c6) (i - 1 + 1) 3 1 (ps.take (i - 1) ++ [.int .i64 (-last)])) (by repeat (first | exact Rem.here | apply Rem.there))) (c := rowc (.slice a4 (nP + 1) c4) (nP + 1) 54 1 (vs ++ [Value.slice (some ⟨b72, 0, none⟩) i i])) (by repeat (first | exact Rem.here | apply Rem.there))) (c := rowc (.slice a5 (nA + 1) c5) (nA + 1) 54 1 (hs ++ [Value.slice (some ⟨b72, 0, none⟩) i i])) (by repeat (first | exact Rem.here | apply Rem.there))) (c := pt b4 [.bool false, .int .u32 0, .slice none 0 0] 43) (by repeat (first | exact Rem.here | apply Rem.there)))).sublist (List.Sublist.cons_cons _ (List.Sublist.cons_cons _ (List.Sublist.cons_cons _ (List.Sublist.cons_cons _ (List.Sublist.cons_cons _ (List.nil_sublist _))))))) ?_
                refine WQ.back (⟨f, path.dropLast ++ [-last], ss ++ [(path.map (fun x => -x))], vs ++ [Value.slice (some ⟨b72, 0, none⟩) i i], hs ++ [Value.slice (some ⟨b72, 0, none⟩) i i], ps.take (i - 1) ++ [.int .i64 (-last)], b72 :: Fb, a5, a4, a6, c5, c4, c6, nA + 1, nP + 1, i - 1 + 1⟩) ?_ ?_ ?_ ?_
                · exact ⟨sol, by show hs ++ _ = us ++ (vs ++ _); rw [hhs, List.append_assoc], by show ps.take (i - 1) ++ _ = (path.dropLast ++ _).map _; rw [htk]; simp, by show nA + 1 = ls.length + (ss ++ [_]).length; rw [hA]; simp; omega, by show nP + 1 = (ss ++ [_]).length; rw [hP]; simp, by show i - 1 + 1 = (path.dropLast ++ [_]).length; simp; omega, by intro x hx; rcases List.mem_append.1 hx with hx | hx; exact hlit x ((List.dropLast_sublist path).subset hx); simp at hx; subst hx; exact ⟨by omega, by omega, by omega⟩, hslit5, hslen5, by show (path.dropLast ++ [_]).length + f ≤ _; simp; omega, hbs5⟩
                · dsimp only; omega
                · exact ⟨rfl, rfl, rfl, rfl, rfl, trivial⟩
                · rfl
              · skip
                have hneg : ¬ last < 0 := by simpa using h111
                rw [if_neg hneg, List.append_assoc] at sol
                refine WC.skip ?_
                refine WQ.block_normal ?_
                refine WQ.chunks (C' := [pt b4 [.bool false, .int .u32 0, .slice none 0 0] 43, rowc (.slice a5 (nA + 1) c5) (nA + 1) 54 1 (hs ++ [Value.slice (some ⟨b72, 0, none⟩) i i]), rowc (.slice a4 (nP + 1) c4) (nP + 1) 54 1 (vs ++ [Value.slice (some ⟨b72, 0, none⟩) i i]), rowc (.slice (some ⟨g, 0, none⟩) (i - 1) tc) (i - 1) 3 1 (ps.take (i - 1)), stepsC (b72 :: Fb) (vs ++ [Value.slice (some ⟨b72, 0, none⟩) i i]) (ss ++ [(path.map (fun x => -x))])]) (fun w hS => ((St.pick (St.pick (St.pick (St.pick (St.pick hS (c := stepsC (b72 :: Fb) (vs ++ [Value.slice (some ⟨b72, 0, none⟩) i i]) (ss ++ [(path.map (fun x => -x))])) (by repeat (first | exact Rem.here | apply Rem.there))) (c := rowc (.slice (some ⟨g, 0, none⟩) (i - 1) tc) (i - 1) 3 1 (ps.take (i - 1))) (by repeat (first | exact Rem.here | apply Rem.there))) (c := rowc (.slice a4 (nP + 1) c4) (nP + 1) 54 1 (vs ++ [Value.slice (some ⟨b72, 0, none⟩) i i])) (by repeat (first | exact Rem.here | apply Rem.there))) (c := rowc (.slice a5 (nA + 1) c5) (nA + 1) 54 1 (hs ++ [Value.slice (some ⟨b72, 0, none⟩) i i])) (by repeat (first | exact Rem.here | apply Rem.there))) (c := pt b4 [.bool false, .int .u32 0, .slice none 0 0] 43) (by repeat (first | exact Rem.here | apply Rem.there)))).sublist (List.Sublist.cons_cons _ (List.Sublist.cons_cons _ (List.Sublist.cons_cons _ (List.Sublist.cons_cons _ (List.Sublist.cons_cons _ (List.nil_sublist _))))))) ?_
                refine WQ.back (⟨f, path.dropLast, ss ++ [(path.map (fun x => -x))], vs ++ [Value.slice (some ⟨b72, 0, none⟩) i i], hs ++ [Value.slice (some ⟨b72, 0, none⟩) i i], ps.take (i - 1), b72 :: Fb, a5, a4, some ⟨g, 0, none⟩, c5, c4, tc, nA + 1, nP + 1, i - 1⟩) ?_ ?_ ?_ ?_
                · exact ⟨⟨sol, by show hs ++ _ = us ++ (vs ++ _); rw [hhs, List.append_assoc], by show ps.take (i - 1) = path.dropLast.map _; exact htk, by show nA + 1 = ls.length + (ss ++ [_]).length; rw [hA]; simp; omega, by show nP + 1 = (ss ++ [_]).length; rw [hP]; simp, by show i - 1 = path.dropLast.length; simp; omega, fun x hx => hlit x ((List.dropLast_sublist path).subset hx), hslit5, hslen5, by show path.dropLast.length + f ≤ _; simp; omega, hbs5⟩, by show f ≤ fo; omega⟩
                · exact Nat.lt_succ_self f
                · exact ⟨rfl, rfl, rfl, rfl, rfl, trivial⟩
                · rfl

end Go.Proofs.Ytbippghgkbapnaa

namespace Go.Proofs.Ytbippghgkbapnaa
open Go Go.Eng Go.Proofs
theorem name_c (s : List UInt8) (w : World) : Pure Try.prog 44 [.string (str s)] w (.agg [Value.int .u8 3, .string (str s), .slice none 0 0].toArray) := by
  refine enter Try.func44 rfl Try.ntmps44 rfl (St.init _) ?_
  refine WC.seq ?_
  refine WC.region ?_
  refine WL.step ?_
  refine WL.alloc F.zero25 rfl (fun b2 => ?_)
  refine WL.nil ?_
  refine WQ.then_normal ?_
  refine WC.seq ?_
  refine WC.region ?_
  refine WL.step ?_
  refine WL.move rfl rfl ?_
  refine WL.step ?_
  refine WL.build F.stT25 rfl (by repeat (first | exact Built.nil | apply Built.one rfl rfl (by repeat constructor) | apply Built.agg rfl rfl (by repeat constructor))) rfl ?_
  refine WL.step ?_
  refine WL.storeN F.agg25 rfl rfl rfl (by simp [Value.oneCell']) (by repeat (first | exact Upd.here | apply Upd.there)) (by repeat constructor) ?_
  refine WL.nil ?_
  refine WQ.then_normal ?_
  refine WC.ret ?_
  refine WQ.ret (rs := [.cell 2 25]) rfl (.cellN F.agg25 rfl (by repeat (first | exact List.Mem.head _ | apply List.Mem.tail)) rfl .nil) (fun w hS => ⟨rfl, hS.drop⟩)

def T1 : Tree := .mk 5 [] [.mk 3 [97] [], .mk 3 [98] [], .mk 5 [] [.mk 3 [99] [], .mk 3 [100] []]]
def T2 : Tree := .mk 5 [] [.mk 6 [] [.mk 3 [97] [], .mk 3 [98] []], .mk 4 [] [.mk 3 [99] []]]
theorem top1 : Fm.top [97, 32, 38, 32, 98, 32, 38, 32, 40, 99, 32, 38, 32, 100, 41] = (T1, 0, 0) := by kernel_rfl
theorem top2 : Fm.top [97, 32, 60, 61, 62, 32, 98, 32, 60, 61, 62, 32, 99] = (Fm.zeroTree, 8, 4) := by kernel_rfl
theorem print1 : printS T2 = [40, 97, 32, 124, 32, 98, 41, 32, 38, 32, 33, 99] := by kernel_rfl
theorem valid1 : Fm.validB T2 = true := by kernel_rfl
theorem sol1 : Fm.solveF 2 20 false [[1, 2], [-1]] [] [] = some ⟨true, 2, []⟩ := by kernel_rfl
theorem sol2 : Fm.solveF 1 20 false [[1], [-1]] [] [] = some ⟨false, 0, [[]]⟩ := by kernel_rfl
theorem may1 : Fm.mayE 2 [[1, 2], [-1]] = 0 := by kernel_rfl
theorem may2 : Fm.mayE 1 [[1], [-1]] = 0 := by kernel_rfl
/-- Two clauses that the caller laid. -/
theorem RdLL.two {w0 w : World} {O : List Nat} {C : List Chunk} {b1 b2 b3 : Nat} {c1 c2 : List Int} (hS : St w0 O C w) (h1 : pt b1 (c1.map (Value.int .i64)) 3 ∈ C) (h2 : pt b2 (c2.map (Value.int .i64)) 3 ∈ C)
    (h3 : pt b3 [.slice (some ⟨b1, 0, none⟩) c1.length c1.length, .slice (some ⟨b2, 0, none⟩) c2.length c2.length] 54 ∈ C) :
    RdLL w [c1, c2] (some ⟨b3, 0, none⟩) [.slice (some ⟨b1, 0, none⟩) c1.length c1.length, .slice (some ⟨b2, 0, none⟩) c2.length c2.length] := by
  refine ⟨rfl, fun i u hu => ⟨b3, 0, rfl, by rw [Nat.zero_add]; exact hS.cell h3 hu⟩, fun i c u hc hu => ?_⟩
  match i, hc, hu with
  | 0, hc, hu =>
    simp at hc hu
    subst hc; subst hu
    exact ⟨_, _, rfl, fun j x hx => ⟨b1, 0, rfl, by rw [Nat.zero_add]; exact hS.cell h1 (by simp [hx])⟩⟩
  | 1, hc, hu =>
    simp at hc hu
    subst hc; subst hu
    exact ⟨_, _, rfl, fun j x hx => ⟨b2, 0, rfl, by rw [Nat.zero_add]; exact hS.cell h2 (by simp [hx])⟩⟩
  | i + 2, hc, hu => simp at hc

theorem wakes_c (w : World) : Pure Try.prog 13 [] w (.bool true) := by
  refine enter Try.func13 rfl Try.ntmps13 rfl (St.init _) ?_
  refine WC.seq ?_
  refine WC.region ?_
  refine WL.step ?_
  refine WL.assign rfl rfl ?_
  refine WL.nil ?_
  refine WQ.then_normal ?_
  refine WC.seq ?_
  refine WC.region ?_
  refine WL.step ?_
  refine WL.callC (β := List Nat × Option Addr × Nat) (res := fun y => .tuple #[tv T1 y.2.1 y.2.2, .int .i64 0, .int .i64 0]) (cs := fun y => [own y.1 T1 (tv T1 y.2.1 y.2.2)]) (Cs := []) (O' := []) F.fun14 (fun d h => by cases h; rfl) rfl (List.Perm.refl _) (by simp) (by simp) (fun w hS _ => (Parse_c [97, 32, 38, 32, 98, 32, 38, 32, 40, 99, 32, 38, 32, 100, 41] w).mono (fun e w2 h => ?_)) (fun y14 => ?_)
  · rw [top1] at h
    exact h
  refine WL.step ?_
  refine WL.move rfl rfl ?_
  refine WL.step ?_
  refine WL.extract rfl rfl rfl ?_
  refine WL.step ?_
  refine WL.extract rfl rfl rfl ?_
  refine WL.step ?_
  refine WL.extract rfl rfl rfl ?_
  refine WL.step ?_
  refine WL.alloc F.zero25 rfl (fun b1 => ?_)
  refine WL.step ?_
  refine WL.storeN F.agg25 rfl rfl rfl (by simp [Value.oneCell']) (by repeat (first | exact Upd.here | apply Upd.there)) (by repeat constructor) ?_
  refine WL.step ?_
  refine WL.assign rfl rfl ?_
  refine WL.step ?_
  refine WL.assign rfl rfl ?_
  refine WL.nil ?_
  refine WQ.then_normal ?_
  refine WC.seq ?_
  refine WC.region ?_
  refine WL.step ?_
  refine WL.callV F.fun44 rfl rfl (fun w _ => name_c [97] w) ?_
  refine WL.step ?_
  refine WL.callV F.fun44 rfl rfl (fun w _ => name_c [98] w) ?_
  refine WL.step ?_
  refine WL.buildSlice F.sl23 F.ez23 rfl rfl rfl rfl (by repeat (first | exact Built.nil | apply Built.one rfl rfl (by repeat constructor) | apply Built.agg rfl rfl (by repeat constructor))) rfl (fun b21 => ?_)
  refine WL.step ?_
  refine WL.build F.stT25 rfl (by repeat (first | exact Built.nil | apply Built.one rfl rfl (by repeat constructor) | apply Built.agg rfl rfl (by repeat constructor))) rfl ?_
  refine WL.step ?_
  refine WL.callV F.fun44 rfl rfl (fun w _ => name_c [99] w) ?_
  refine WL.step ?_
  refine WL.buildSlice F.sl23 F.ez23 rfl rfl rfl rfl (by repeat (first | exact Built.nil | apply Built.one rfl rfl (by repeat constructor) | apply Built.agg rfl rfl (by repeat constructor))) rfl (fun b24 => ?_)
  refine WL.step ?_
  refine WL.build F.stT25 rfl (by repeat (first | exact Built.nil | apply Built.one rfl rfl (by repeat constructor) | apply Built.agg rfl rfl (by repeat constructor))) rfl ?_
  refine WL.step ?_
  refine WL.buildSlice F.sl23 F.ez23 rfl rfl rfl rfl (by repeat (first | exact Built.nil | apply Built.one rfl rfl (by repeat constructor) | apply Built.agg rfl rfl (by repeat constructor))) rfl (fun b26 => ?_)
  refine WL.step ?_
  refine WL.build F.stT25 rfl (by repeat (first | exact Built.nil | apply Built.one rfl rfl (by repeat constructor) | apply Built.agg rfl rfl (by repeat constructor))) rfl ?_
  refine WA.chunksE (C' := fun x : List Nat => [own x T2 (.agg #[.int .u8 5, .string (str []), .slice (some ⟨b26, 0, none⟩) 2 2]), pt b1 [.int .u8 T1.op, .string (str T1.name), .slice y14.2.1 T1.kids.length y14.2.2] 25]) (fun w hS => ?_) (fun G => ?_)
  · have a1 := St.node0 3 [98] (St.node0 3 [97] hS)
    have a2 := St.pick a1 (c := own [] (Tree.mk 3 [97] []) (.agg #[.int .u8 3, .string (str [97]), .slice none 0 0])) (by repeat (first | exact Rem.here | apply Rem.there))
    obtain ⟨F1, a3⟩ := St.node2 6 (t1 := Tree.mk 3 [97] []) (t2 := Tree.mk 3 [98] []) (a1 := none) (a2 := none) (c1 := 0) (c2 := 0) (St.pick a2 (c := pt b21 [.int .u8 3, .string (str [97]), .slice none 0 0, .int .u8 3, .string (str [98]), .slice none 0 0] 25) (by repeat (first | exact Rem.here | apply Rem.there)))
    have a4 := St.node0 3 [99] a3
    obtain ⟨F2, a5⟩ := St.node1 4 (t1 := Tree.mk 3 [99] []) (a1 := none) (c1 := 0) (St.pick a4 (c := pt b24 [.int .u8 3, .string (str [99]), .slice none 0 0] 25) (by repeat (first | exact Rem.here | apply Rem.there)))
    have a6 := St.pick a5 (c := own F1 (.mk 6 [] [Tree.mk 3 [97] [], Tree.mk 3 [98] []]) (.agg #[.int .u8 6, .string (str []), .slice (some ⟨b21, 0, none⟩) 2 2])) (by repeat (first | exact Rem.here | apply Rem.there))
    obtain ⟨F3, a7⟩ := St.node2 5 (t1 := .mk 6 [] [Tree.mk 3 [97] [], Tree.mk 3 [98] []]) (t2 := .mk 4 [] [Tree.mk 3 [99] []]) (a1 := some ⟨b21, 0, none⟩) (a2 := some ⟨b24, 0, none⟩) (c1 := 2) (c2 := 1) (St.pick a6 (c := pt b26 [.int .u8 6, .string (str []), .slice (some ⟨b21, 0, none⟩) 2 2, .int .u8 4, .string (str []), .slice (some ⟨b24, 0, none⟩) 1 1] 25) (by repeat (first | exact Rem.here | apply Rem.there)))
    exact ⟨F3, ((St.pick (St.pick a7 (c := pt b1 [.int .u8 T1.op, .string (str T1.name), .slice y14.2.1 T1.kids.length y14.2.2] 25) (by repeat (first | exact Rem.here | apply Rem.there))) (c := own F3 T2 (.agg #[.int .u8 5, .string (str []), .slice (some ⟨b26, 0, none⟩) 2 2])) (by repeat (first | exact Rem.here | apply Rem.there)))).two2⟩
  refine WL.step ?_
  refine WL.callV (v := .tuple #[.string (str [40, 97, 32, 124, 32, 98, 41, 32, 38, 32, 33, 99]), .int .i64 0]) F.fun19 rfl rfl (fun w hS => by have h9 := Print_c T2 G (some ⟨b26, 0, none⟩) 2 w (hS.ok _ (List.Mem.head _)).2; rw [print1, valid1] at h9; exact h9) ?_
  refine WL.step ?_
  refine WL.move rfl rfl ?_
  refine WL.step ?_
  refine WL.extract rfl rfl rfl ?_
  refine WL.step ?_
  refine WL.extract rfl rfl rfl ?_
  refine WL.step ?_
  refine WL.assign rfl rfl ?_
  refine WL.step ?_
  refine WL.assign rfl rfl ?_
  refine WL.nil ?_
  refine WQ.then_normal ?_
  refine WC.seq ?_
  refine WC.region ?_
  refine WL.step ?_
  refine WL.callC (β := List Nat × Option Addr × Nat) (res := fun y => .tuple #[tv Fm.zeroTree y.2.1 y.2.2, .int .i64 8, .int .i64 4]) (cs := fun y => [own y.1 Fm.zeroTree (tv Fm.zeroTree y.2.1 y.2.2)]) (Cs := []) (O' := []) F.fun14 (fun d h => by cases h; rfl) rfl (List.Perm.refl _) (by simp) (by simp) (fun w hS _ => (Parse_c [97, 32, 60, 61, 62, 32, 98, 32, 60, 61, 62, 32, 99] w).mono (fun e w2 h => ?_)) (fun y32 => ?_)
  · rw [top2] at h
    exact h
  refine WL.step ?_
  refine WL.move rfl rfl ?_
  refine WL.step ?_
  refine WL.extract rfl rfl rfl ?_
  refine WL.step ?_
  refine WL.extract rfl rfl rfl ?_
  refine WL.step ?_
  refine WL.extract rfl rfl rfl ?_
  refine WL.step ?_
  refine WL.alloc F.zero25 rfl (fun b6 => ?_)
  refine WL.step ?_
  refine WL.storeN F.agg25 rfl rfl rfl (by simp [Value.oneCell']) (by repeat (first | exact Upd.here | apply Upd.there)) (by repeat constructor) ?_
  refine WL.step ?_
  refine WL.assign rfl rfl ?_
  refine WL.step ?_
  refine WL.assign rfl rfl ?_
  refine WL.nil ?_
  refine WQ.then_normal ?_
  refine WC.seq ?_
  refine WC.region ?_
  refine WL.step ?_
  refine WL.buildSlice F.sl54 F.ez54 rfl rfl rfl rfl (by repeat (first | exact Built.nil | apply Built.one rfl rfl (by repeat constructor) | apply Built.agg rfl rfl (by repeat constructor))) rfl (fun b37 => ?_)
  refine WL.step ?_
  refine WL.buildSlice F.sl54 F.ez54 rfl rfl rfl rfl (by repeat (first | exact Built.nil | apply Built.one rfl rfl (by repeat constructor) | apply Built.agg rfl rfl (by repeat constructor))) rfl (fun b38 => ?_)
  refine WL.step ?_
  refine WL.buildSlice F.sl38 F.ez38 rfl rfl rfl rfl (by repeat (first | exact Built.nil | apply Built.one rfl rfl (by repeat constructor) | apply Built.agg rfl rfl (by repeat constructor))) rfl (fun b39 => ?_)
  refine WL.step ?_
  refine WL.callC (β := Option Addr × Nat) (res := fun x => .tuple #[.agg #[.bool true, .int .u32 2, .slice x.1 0 x.2], .int .i64 0]) (cs := fun _ => []) (Cs := []) (O' := []) F.fun24 (fun d h => by cases h; rfl) rfl (List.Perm.refl _) (by simp) (by simp) (fun w hS _ => (Solve_c 2 [[1, 2], [-1]] (some ⟨b39, 0, none⟩) 2 _ (.inr ⟨_, _, rfl⟩) w (RdLL.two (b1 := b37) (b2 := b38) (b3 := b39) (c1 := [1, 2]) (c2 := [-1]) hS (by repeat (first | exact List.Mem.head _ | apply List.Mem.tail)) (by repeat (first | exact List.Mem.head _ | apply List.Mem.tail)) (by repeat (first | exact List.Mem.head _ | apply List.Mem.tail))) 20 ⟨true, 2, []⟩ (by decide) (fun n hn _ => ?_)).mono (fun e w2 h => ?_)) (fun x40 => ?_)
  · have : n = 2 := by omega
    subst this
    exact sol1
  · rcases h with h | h
    · exact absurd may1 h.1
    · obtain ⟨_, x, F, vs, h1, h2⟩ := h
      exact ⟨x, h1, h2.sublist (List.nil_sublist _)⟩
  refine WL.step ?_
  refine WL.move rfl rfl ?_
  refine WL.step ?_
  refine WL.extract rfl rfl rfl ?_
  refine WL.step ?_
  refine WL.extract rfl rfl rfl ?_
  refine WL.step ?_
  refine WL.alloc F.zero43 rfl (fun b9 => ?_)
  refine WL.step ?_
  refine WL.storeN F.agg43 rfl rfl rfl (by simp [Value.oneCell']) (by repeat (first | exact Upd.here | apply Upd.there)) (by repeat constructor) ?_
  refine WL.step ?_
  refine WL.assign rfl rfl ?_
  refine WL.nil ?_
  refine WQ.then_normal ?_
  refine WC.seq ?_
  refine WC.region ?_
  refine WL.step ?_
  refine WL.buildSlice F.sl54 F.ez54 rfl rfl rfl rfl (by repeat (first | exact Built.nil | apply Built.one rfl rfl (by repeat constructor) | apply Built.agg rfl rfl (by repeat constructor))) rfl (fun b44 => ?_)
  refine WL.step ?_
  refine WL.buildSlice F.sl54 F.ez54 rfl rfl rfl rfl (by repeat (first | exact Built.nil | apply Built.one rfl rfl (by repeat constructor) | apply Built.agg rfl rfl (by repeat constructor))) rfl (fun b45 => ?_)
  refine WL.step ?_
  refine WL.buildSlice F.sl38 F.ez38 rfl rfl rfl rfl (by repeat (first | exact Built.nil | apply Built.one rfl rfl (by repeat constructor) | apply Built.agg rfl rfl (by repeat constructor))) rfl (fun b46 => ?_)
  refine WL.step ?_
  refine WL.callC (β := Option Addr × Nat) (res := fun x => .tuple #[.agg #[.bool false, .int .u32 0, .slice x.1 1 x.2], .int .i64 0]) (cs := fun _ => []) (Cs := []) (O' := []) F.fun24 (fun d h => by cases h; rfl) rfl (List.Perm.refl _) (by simp) (by simp) (fun w hS _ => (Solve_c 1 [[1], [-1]] (some ⟨b46, 0, none⟩) 2 _ (.inr ⟨_, _, rfl⟩) w (RdLL.two (b1 := b44) (b2 := b45) (b3 := b46) (c1 := [1]) (c2 := [-1]) hS (by repeat (first | exact List.Mem.head _ | apply List.Mem.tail)) (by repeat (first | exact List.Mem.head _ | apply List.Mem.tail)) (by repeat (first | exact List.Mem.head _ | apply List.Mem.tail))) 20 ⟨false, 0, [[]]⟩ (by decide) (fun n hn _ => ?_)).mono (fun e w2 h => ?_)) (fun x47 => ?_)
  · have : n = 1 := by omega
    subst this
    exact sol2
  · rcases h with h | h
    · exact absurd may2 h.1
    · obtain ⟨_, x, F, vs, h1, h2⟩ := h
      exact ⟨x, h1, h2.sublist (List.nil_sublist _)⟩
  refine WL.step ?_
  refine WL.move rfl rfl ?_
  refine WL.step ?_
  refine WL.extract rfl rfl rfl ?_
  refine WL.step ?_
  refine WL.extract rfl rfl rfl ?_
  refine WL.step ?_
  refine WL.alloc F.zero43 rfl (fun b11 => ?_)
  refine WL.step ?_
  refine WL.storeN F.agg43 rfl rfl rfl (by simp [Value.oneCell']) (by repeat (first | exact Upd.here | apply Upd.there)) (by repeat constructor) ?_
  refine WL.step ?_
  refine WL.assign rfl rfl ?_
  refine WL.nil ?_
  refine WQ.then_normal ?_
  refine WC.seq ?_
  refine WC.region ?_
  refine WL.step ?_
  refine WL.move rfl rfl ?_
  refine WL.step ?_
  refine WL.eqI rfl rfl rfl ?_
  refine WL.step ?_
  refine WL.move rfl rfl ?_
  refine WA.splitB (i := 52) rfl (fun g52 => ?_) (fun g52 => ?_)
  · skip
    refine WL.step (WL.guardT rfl rfl rfl ?_)
    refine WL.move rfl rfl ?_
    refine WL.step (WL.guardT rfl rfl rfl ?_)
    refine WL.eqI rfl rfl rfl ?_
    refine WL.step ?_
    refine WL.pickT rfl rfl rfl ?_
    refine WL.step ?_
    refine WL.move rfl rfl ?_
    refine WA.splitB (i := 56) rfl (fun g56 => ?_) (fun g56 => ?_)
    · skip
      refine WL.step (WL.guardT rfl rfl rfl ?_)
      refine WL.fieldAddr0 F.fld25_0 rfl rfl ?_
      refine WL.step (WL.guardT rfl rfl rfl ?_)
      refine WL.loadP F.one5 rfl rfl (by repeat (first | exact List.Mem.head _ | apply List.Mem.tail)) rfl ?_
      refine WL.step (WL.guardT rfl rfl rfl ?_)
      refine WL.eqI rfl rfl rfl ?_
      refine WL.step ?_
      refine WL.pickT rfl rfl rfl ?_
      refine WL.step ?_
      refine WL.move rfl rfl ?_
      refine WA.splitB (i := 61) rfl (fun g61 => ?_) (fun g61 => ?_)
      · skip
        refine WL.step (WL.guardT rfl rfl rfl ?_)
        refine WL.fieldAddr0 F.fld25_2 rfl rfl ?_
        refine WL.step (WL.guardT rfl rfl rfl ?_)
        refine WL.loadP F.one23 rfl rfl (by repeat (first | exact List.Mem.head _ | apply List.Mem.tail)) rfl ?_
        refine WL.step (WL.guardT rfl rfl rfl ?_)
        refine WL.lenSl F.und23 rfl rfl ?_
        refine WL.step (WL.guardT rfl rfl rfl ?_)
        refine WL.eqI rfl rfl rfl ?_
        refine WL.step ?_
        refine WL.pickT rfl rfl rfl ?_
        refine WL.step ?_
        refine WL.move rfl rfl ?_
        refine WA.splitB (i := 67) rfl (fun g67 => ?_) (fun g67 => ?_)
        · skip
          refine WL.step (WL.guardT rfl rfl rfl ?_)
          refine WL.move rfl rfl ?_
          refine WL.step (WL.guardT rfl rfl rfl ?_)
          refine WL.eqI rfl rfl rfl ?_
          refine WL.step ?_
          refine WL.pickT rfl rfl rfl ?_
          refine WL.step ?_
          refine WL.move rfl rfl ?_
          refine WA.splitB (i := 71) rfl (fun g71 => ?_) (fun g71 => ?_)
          · skip
            refine WL.step (WL.guardT rfl rfl rfl ?_)
            refine WL.move rfl rfl ?_
            refine WL.step (WL.guardT rfl rfl rfl ?_)
            refine WL.eqS rfl rfl rfl ?_
            refine WL.step ?_
            refine WL.pickT rfl rfl rfl ?_
            refine WL.step ?_
            refine WL.move rfl rfl ?_
            refine WA.splitB (i := 75) rfl (fun g75 => ?_) (fun g75 => ?_)
            · skip
              refine WL.step (WL.guardT rfl rfl rfl ?_)
              refine WL.move rfl rfl ?_
              refine WL.step (WL.guardT rfl rfl rfl ?_)
              refine WL.eqI rfl rfl rfl ?_
              refine WL.step ?_
              refine WL.pickT rfl rfl rfl ?_
              refine WL.step ?_
              refine WL.move rfl rfl ?_
              refine WA.splitB (i := 79) rfl (fun g79 => ?_) (fun g79 => ?_)
              · skip
                refine WL.step (WL.guardT rfl rfl rfl ?_)
                refine WL.move rfl rfl ?_
                refine WL.step (WL.guardT rfl rfl rfl ?_)
                refine WL.eqI rfl rfl rfl ?_
                refine WL.step ?_
                refine WL.pickT rfl rfl rfl ?_
                refine WL.step ?_
                refine WL.move rfl rfl ?_
                refine WA.splitB (i := 83) rfl (fun g83 => ?_) (fun g83 => ?_)
                · skip
                  refine WL.step (WL.guardT rfl rfl rfl ?_)
                  refine WL.move rfl rfl ?_
                  refine WL.step (WL.guardT rfl rfl rfl ?_)
                  refine WL.eqI rfl rfl rfl ?_
                  refine WL.step ?_
                  refine WL.pickT rfl rfl rfl ?_
                  refine WL.step ?_
                  refine WL.move rfl rfl ?_
                  refine WA.splitB (i := 87) rfl (fun g87 => ?_) (fun g87 => ?_)
                  · skip
                    refine WL.step (WL.guardT rfl rfl rfl ?_)
                    refine WL.fieldAddr0 F.fld43_0 rfl rfl ?_
                    refine WL.step (WL.guardT rfl rfl rfl ?_)
                    refine WL.loadP F.one4 rfl rfl (by repeat (first | exact List.Mem.head _ | apply List.Mem.tail)) rfl ?_
                    refine WL.step ?_
                    refine WL.pickT rfl rfl rfl ?_
                    refine WL.step ?_
                    refine WL.move rfl rfl ?_
                    refine WA.splitB (i := 91) rfl (fun g91 => ?_) (fun g91 => ?_)
                    · skip
                      refine WL.step (WL.guardT rfl rfl rfl ?_)
                      refine WL.fieldAddr0 F.fld43_1 rfl rfl ?_
                      refine WL.step (WL.guardT rfl rfl rfl ?_)
                      refine WL.loadP F.one41 rfl rfl (by repeat (first | exact List.Mem.head _ | apply List.Mem.tail)) rfl ?_
                      refine WL.step (WL.guardT rfl rfl rfl ?_)
                      refine WL.eqI rfl rfl rfl ?_
                      refine WL.step ?_
                      refine WL.pickT rfl rfl rfl ?_
                      refine WL.step ?_
                      refine WL.move rfl rfl ?_
                      refine WA.splitB (i := 96) rfl (fun g96 => ?_) (fun g96 => ?_)
                      · skip
                        refine WL.step (WL.guardT rfl rfl rfl ?_)
                        refine WL.move rfl rfl ?_
                        refine WL.step (WL.guardT rfl rfl rfl ?_)
                        refine WL.eqI rfl rfl rfl ?_
                        refine WL.step ?_
                        refine WL.pickT rfl rfl rfl ?_
                        refine WL.step ?_
                        refine WL.move rfl rfl ?_
                        refine WA.splitB (i := 100) rfl (fun g100 => ?_) (fun g100 => ?_)
                        · skip
                          refine WL.step (WL.guardT rfl rfl rfl ?_)
                          refine WL.fieldAddr0 F.fld43_0 rfl rfl ?_
                          refine WL.step (WL.guardT rfl rfl rfl ?_)
                          refine WL.loadP F.one4 rfl rfl (by repeat (first | exact List.Mem.head _ | apply List.Mem.tail)) rfl ?_
                          refine WL.step (WL.guardT rfl rfl rfl ?_)
                          refine WL.not rfl rfl ?_
                          refine WL.step ?_
                          refine WL.pickT rfl rfl rfl ?_
                          refine WL.step ?_
                          refine WL.move rfl rfl ?_
                          refine WA.splitB (i := 105) rfl (fun g105 => ?_) (fun g105 => ?_)
                          · skip
                            refine WL.step (WL.guardT rfl rfl rfl ?_)
                            refine WL.fieldAddr0 F.fld43_2 rfl rfl ?_
                            refine WL.step (WL.guardT rfl rfl rfl ?_)
                            refine WL.loadP F.one38 rfl rfl (by repeat (first | exact List.Mem.head _ | apply List.Mem.tail)) rfl ?_
                            refine WL.step (WL.guardT rfl rfl rfl ?_)
                            refine WL.lenSl F.und38 rfl rfl ?_
                            refine WL.step (WL.guardT rfl rfl rfl ?_)
                            refine WL.gtI rfl rfl rfl ?_
                            refine WL.step ?_
                            refine WL.pickT rfl rfl rfl ?_
                            refine WL.step ?_
                            refine WL.assign rfl rfl ?_
                            refine WL.nil ?_
                            refine WQ.then_normal ?_
                            refine WC.ret ?_
                            exact WQ.ret (rs := [.tmp 0]) rfl (.tmp rfl .nil) (fun w hS => ⟨rfl, hS.sublist (List.nil_sublist _)⟩)
                          · skip
                            exact absurd g105 (by decide)
                        · skip
                          exact absurd g100 (by decide)
                      · skip
                        exact absurd g96 (by decide)
                    · skip
                      exact absurd g91 (by decide)
                  · skip
                    exact absurd g87 (by decide)
                · skip
                  exact absurd g83 (by decide)
              · skip
                exact absurd g79 (by decide)
            · skip
              exact absurd g75 (by decide)
          · skip
            exact absurd g71 (by decide)
        · skip
          exact absurd g67 (by decide)
      · skip
        exact absurd g61 (by decide)
    · skip
      exact absurd g56 (by decide)
  · skip
    exact absurd g52 (by decide)

end Go.Proofs.Ytbippghgkbapnaa

namespace Go.Proofs.Ytbippghgkbapnaa
open Go Go.Eng Go.Proofs
theorem refIsName_c (l : List UInt8) (w : World) : Pure Try.prog 82 [.string (str l)] w (.bool (Fm.isNameB l)) := by
  refine enter Try.func82 rfl Try.ntmps82 rfl (St.init _) ?_
  refine WC.seq ?_
  refine WC.region ?_
  refine WL.step ?_
  refine WL.assign rfl rfl ?_
  refine WL.nil ?_
  refine WQ.then_normal ?_
  refine WC.seq ?_
  refine WC.seq ?_
  refine WC.cutF [(21, .bool (nmBad l)), (0, .string (str l)), (2, .bool false)] (fun Q' hQ => ?_) ?_
  · skip
    refine WC.region ?_
    refine WL.step ?_
    refine WL.move rfl rfl ?_
    refine WL.step ?_
    refine WL.lenS F.und9 rfl rfl ?_
    refine WL.step ?_
    refine WL.ltI rfl rfl rfl ?_
    refine WL.step ?_
    refine WL.move rfl rfl ?_
    refine WA.splitB (i := 7) rfl (fun h7 => ?_) (fun h7 => ?_)
    · skip
      refine WL.step (WL.guardF rfl rfl rfl rfl rfl rfl ?_)
      refine WL.step (WL.guardF rfl rfl rfl rfl rfl rfl ?_)
      refine WL.step (WL.guardF rfl rfl rfl rfl rfl rfl ?_)
      refine WL.step ?_
      refine WL.pickT rfl rfl rfl ?_
      refine WL.step ?_
      refine WL.move rfl rfl ?_
      refine WL.step (WL.guardF rfl rfl rfl rfl rfl rfl ?_)
      refine WL.step (WL.guardF rfl rfl rfl rfl rfl rfl ?_)
      refine WL.step (WL.guardF rfl rfl rfl rfl rfl rfl ?_)
      refine WL.step (WL.guardF rfl rfl rfl rfl rfl rfl ?_)
      refine WL.step (WL.guardU rfl rfl rfl rfl rfl ?_)
      refine WL.step (WL.guardU rfl rfl rfl rfl rfl ?_)
      refine WL.step (WL.guardU rfl rfl rfl rfl rfl ?_)
      refine WL.step (WL.guardF rfl rfl rfl rfl rfl rfl ?_)
      refine WL.step ?_
      refine WL.pickT rfl rfl rfl ?_
      refine WL.nil ?_
      refine WQ.byCut hQ (subF_bool ?_ ⟨rfl, rfl, trivial⟩ rfl)
      first | exact nmBad_nil h7 | exact nmBad_long h12 | (rw [nmBad_digit hc0 h16]; simp at h12; simp; omega) | (rw [nmBad_nodigit hc0 h16]; simp at h12; simp; omega)
    · skip
      have hpos : 0 < l.length := by simp at h7; omega
      obtain ⟨c0, hc0⟩ : ∃ c, l[0]? = some c := ⟨l[0], by simp [hpos]⟩
      refine WL.step (WL.guardT rfl rfl rfl ?_)
      refine WL.move rfl rfl ?_
      refine WL.step (WL.guardT rfl rfl rfl ?_)
      refine WL.lenS F.und9 rfl rfl ?_
      refine WL.step (WL.guardT rfl rfl rfl ?_)
      refine WL.gtI rfl rfl rfl ?_
      refine WL.step ?_
      refine WL.pickF rfl rfl rfl ?_
      refine WL.step ?_
      refine WL.move rfl rfl ?_
      refine WA.splitB (i := 12) rfl (fun h12 => ?_) (fun h12 => ?_)
      · skip
        refine WL.step (WL.guardF rfl rfl rfl rfl rfl rfl ?_)
        refine WL.step (WL.guardF rfl rfl rfl rfl rfl rfl ?_)
        refine WL.step (WL.guardF rfl rfl rfl rfl rfl rfl ?_)
        refine WL.step (WL.guardF rfl rfl rfl rfl rfl rfl ?_)
        refine WL.step (WL.guardU rfl rfl rfl rfl rfl ?_)
        refine WL.step (WL.guardU rfl rfl rfl rfl rfl ?_)
        refine WL.step (WL.guardU rfl rfl rfl rfl rfl ?_)
        refine WL.step (WL.guardF rfl rfl rfl rfl rfl rfl ?_)
        refine WL.step ?_
        refine WL.pickT rfl rfl rfl ?_
        refine WL.nil ?_
        refine WQ.byCut hQ (subF_bool ?_ ⟨rfl, rfl, trivial⟩ rfl)
        first | exact nmBad_nil h7 | exact nmBad_long h12 | (rw [nmBad_digit hc0 h16]; simp at h12; simp; omega) | (rw [nmBad_nodigit hc0 h16]; simp at h12; simp; omega)
      · skip
        refine WL.step (WL.guardT rfl rfl rfl ?_)
        refine WL.move rfl rfl ?_
        refine WL.step (WL.guardT rfl rfl rfl ?_)
        refine WL.indexS (i := 0) F.und9 rfl rfl rfl hc0 ?_
        refine WL.step (WL.guardT rfl rfl rfl ?_)
        refine WL.geI rfl rfl rfl ?_
        refine WL.step (WL.guardT rfl rfl rfl ?_)
        refine WL.move rfl rfl ?_
        refine WA.splitB (i := 16) rfl (fun h16 => ?_) (fun h16 => ?_)
        · skip
          refine WL.step (WL.guardT rfl rfl rfl ?_)
          refine WL.move rfl rfl ?_
          refine WL.step (WL.guardT rfl rfl rfl ?_)
          refine WL.indexS (i := 0) F.und9 rfl rfl rfl hc0 ?_
          refine WL.step (WL.guardT rfl rfl rfl ?_)
          refine WL.leI rfl rfl rfl ?_
          refine WL.step (WL.guardT rfl rfl rfl ?_)
          refine WL.pickT rfl rfl rfl ?_
          refine WL.step ?_
          refine WL.pickF rfl rfl rfl ?_
          refine WL.nil ?_
          refine WQ.byCut hQ (subF_bool ?_ ⟨rfl, rfl, trivial⟩ rfl)
          first | exact nmBad_nil h7 | exact nmBad_long h12 | (rw [nmBad_digit hc0 h16]; simp at h12; simp; omega) | (rw [nmBad_nodigit hc0 h16]; simp at h12; simp; omega)
        · skip
          refine WL.step (WL.guardF rfl rfl rfl rfl rfl rfl ?_)
          refine WL.step (WL.guardF rfl rfl rfl rfl rfl rfl ?_)
          refine WL.step (WL.guardF rfl rfl rfl rfl rfl rfl ?_)
          refine WL.step (WL.guardT rfl rfl rfl ?_)
          refine WL.pickF rfl rfl rfl ?_
          refine WL.step ?_
          refine WL.pickF rfl rfl rfl ?_
          refine WL.nil ?_
          refine WQ.byCut hQ (subF_bool ?_ ⟨rfl, rfl, trivial⟩ rfl)
          first | exact nmBad_nil h7 | exact nmBad_long h12 | (rw [nmBad_digit hc0 h16]; simp at h12; simp; omega) | (rw [nmBad_nodigit hc0 h16]; simp at h12; simp; omega)
  refine WQ.then_normal ?_
  refine WC.cond rfl (fun h21 => ?_) (fun h21 => ?_)
  · skip
    refine WC.seq ?_
    refine WC.region ?_
    refine WL.step ?_
    refine WL.assign rfl rfl ?_
    refine WL.nil ?_
    refine WQ.then_normal ?_
    refine WC.ret ?_
    refine WQ.then_ret ?_
    exact WQ.ret (rs := [.tmp 2]) rfl (.tmp rfl .nil) (fun w hS => ⟨by simp [tup, nmBad_name, h21], hS⟩)
  · skip
    have hl : l.length ≤ 32 := nmBad_len h21
    refine WC.skip ?_
    refine WQ.then_normal ?_
    refine WC.seq ?_
    refine WC.seq ?_
    refine WC.region ?_
    refine WL.step ?_
    refine WL.assign rfl rfl ?_
    refine WL.nil ?_
    refine WQ.then_normal ?_
    refine WC.block ?_
    refine WC.loop (α := Nat) (fun k => k ≤ l.length ∧ (l.take k).all Fm.inWordB = true) (fun k => [(0, .string (str l)), (2, .bool false), (3, .int .i64 k)]) (fun _ => []) (fun k => l.length - k) (0) ?_ ?_ ?_ ?_
    · exact ⟨by omega, by simp⟩
    · exact ⟨rfl, rfl, rfl, trivial⟩
    · rfl
    rintro k ⟨hk, hal⟩
    refine WC.seq ?_
    refine WC.seq ?_
    refine WC.region ?_
    refine WL.step ?_
    refine WL.move rfl rfl ?_
    refine WL.step ?_
    refine WL.move rfl rfl ?_
    refine WL.step ?_
    refine WL.lenS F.und9 rfl rfl ?_
    refine WL.step ?_
    refine WL.ltI rfl rfl rfl ?_
    refine WL.nil ?_
    refine WQ.then_normal ?_
    refine WC.cond rfl (fun h25 => ?_) (fun h25 => ?_)
    · skip
      have hlt : k < l.length := by simpa using h25
      obtain ⟨c, hc⟩ : ∃ c, l[k]? = some c := ⟨l[k], by simp [hlt]⟩
      refine WC.skip ?_
      refine WQ.then_normal ?_
      refine WC.seq ?_
      refine WC.block ?_
      refine WC.seq ?_
      refine WC.region ?_
      refine WL.step ?_
      refine WL.move rfl rfl ?_
      refine WL.step ?_
      refine WL.move rfl rfl ?_
      refine WL.step ?_
      refine WL.indexS F.und9 rfl rfl rfl (by assumption) ?_
      refine WL.step ?_
      refine WL.callV F.fun89 rfl rfl (fun w _ => refInWord_c c w) ?_
      refine WL.step ?_
      refine WL.not rfl rfl ?_
      refine WL.nil ?_
      refine WQ.then_normal ?_
      refine WC.cond rfl (fun h31 => ?_) (fun h31 => ?_)
      · skip
        have hcw : Fm.inWordB c = false := by simpa using h31
        refine WC.seq ?_
        refine WC.region ?_
        refine WL.step ?_
        refine WL.assign rfl rfl ?_
        refine WL.nil ?_
        refine WQ.then_normal ?_
        refine WC.ret ?_
        refine WQ.block_ret ?_
        refine WQ.then_ret ?_
        refine WQ.then_ret ?_
        refine WQ.block_ret ?_
        refine WQ.then_ret ?_
        exact WQ.ret (rs := [.tmp 2]) rfl (.tmp rfl .nil) (fun w hS => ⟨by simp [tup, nmBad_name]; intro _; exact ⟨c, List.mem_of_getElem? hc, hcw⟩, hS⟩)
      · skip
        have hcw : Fm.inWordB c = true := by simpa using h31
        refine WC.skip ?_
        refine WQ.block_normal ?_
        refine WQ.then_normal ?_
        refine WC.region ?_
        refine WL.step ?_
        refine WL.move rfl rfl ?_
        refine WL.step ?_
        refine WL.add rfl rfl rfl ⟨by omega, by omega⟩ ?_
        refine WL.step ?_
        refine WL.assign rfl rfl ?_
        refine WL.nil ?_
        refine WQ.back (k + 1) ?_ ?_ ?_ ?_
        · exact ⟨by omega, by rw [take_all hc, hal, hcw]; rfl⟩
        · omega
        · exact ⟨rfl, rfl, rfl, trivial⟩
        · rfl
    · skip
      have hkl : k = l.length := by simp at h25; omega
      subst hkl
      rw [List.take_length] at hal
      refine WC.exit ?_
      refine WQ.then_exit ?_
      refine WQ.then_exit ?_
      refine WQ.block_exit ?_
      refine WQ.then_normal ?_
      refine WC.seq ?_
      refine WC.region ?_
      refine WL.step ?_
      refine WL.assign rfl rfl ?_
      refine WL.nil ?_
      refine WQ.then_normal ?_
      refine WC.ret ?_
      exact WQ.ret (rs := [.tmp 2]) rfl (.tmp rfl .nil) (fun w hS => ⟨by simp [tup, nmBad_name, h21, hal], hS⟩)

/-- Tokens in memory. -/
def RdTk (w : World) (T : List Fm.Tk) (a : Option Addr) : Prop := ∀ i t, T[i]? = some t → ∃ b off, a = some ⟨b, off, none⟩ ∧ w.cell? ⟨b, off + i * 2, none⟩ = some (.int .i64 (t.1 : Int)) ∧ w.cell? ⟨b, off + i * 2 + 1, none⟩ = some (.string (str t.2))
theorem RdTk.next {w0 w : World} {C : List Chunk} {T : List Fm.Tk} {a : Option Addr} (h : RdTk w0 T a) (hS : St w0 [] C w) : RdTk w T a := fun i t hx => by
  obtain ⟨b, off, ha, hc, hd⟩ := h i t hx
  exact ⟨b, off, ha, hS.oldc hc (by simp), hS.oldc hd (by simp)⟩
abbrev rdv (T : List Fm.Tk) (a : Option Addr) (c : Nat) (r : Fm.RS) : Value := .agg [.slice a T.length c, .int .i64 (r.1 : Int), .bool r.2].toArray
end Go.Proofs.Ytbippghgkbapnaa

namespace Go.Proofs.Ytbippghgkbapnaa
open Go Go.Eng Go.Proofs
def RRpost (T : List Fm.Tk) (a : Option Addr) (c : Nat) (w : World) (q : Tree × Fm.RS) (e : Ending) (w' : World) : Prop :=
  ∃ y : List Nat × Option Addr × Nat, e = .returned (.tuple #[tv q.1 y.2.1 y.2.2, rdv T a c q.2]) ∧ St w [] [own y.1 q.1 (tv q.1 y.2.1 y.2.2)] w'
def RC (T : List Fm.Tk) (a : Option Addr) (c : Nat) (f : Nat) (args : List Value) (nt : Fm.RN) (n : Nat) : Prop := ∀ r q w, RdTk w T a → Fm.rp T n nt r = some q → Calls Try.prog f (rdv T a c r :: args).toArray w (RRpost T a c w q)

end Go.Proofs.Ytbippghgkbapnaa

namespace Go.Proofs.Ytbippghgkbapnaa
open Go Go.Eng Go.Proofs
structure RG2 where
  m : Nat
  acc : List Tree
  F : List Nat
  vs : List Value
  len : Nat
  cells : List Value
  ad : Option Addr
  cap : Nat
  r : Fm.RS
  ev : List Value

end Go.Proofs.Ytbippghgkbapnaa

namespace Go.Proofs.Ytbippghgkbapnaa
open Go Go.Eng Go.Proofs
def tkc (T : List Fm.Tk) : List Value := T.flatMap fun t => [.int .i64 (t.1 : Int), .string (str t.2)]
structure TG where
  n : Nat
  i : Nat
  out : List Fm.Tk
  ad : Option Addr
  cap : Nat
def lim (wd rest : List UInt8) : Nat := if wd = [] then (Fm.word rest).length else 0

end Go.Proofs.Ytbippghgkbapnaa

namespace Go.Proofs.Ytbippghgkbapnaa
open Go Go.Eng Go.Proofs
def RowC (n : Nat) : Prop := ∀ (t : Tree) (wb : World) (G : List Nat) (a : Option Addr) (c : Nat) (w : World), (Fm.rowT t).length ≤ n → rdT wb t G (tv t a c) → Ext wb w →
  Calls Try.prog 38 [tv t a c].toArray w fun e w' => ∃ x : { y : Option Addr × Nat × List Value // NodesOk wb (Fm.rowT t) y.2.2 }, e = .returned (.slice x.1.1 (Fm.rowT t).length x.1.2.1) ∧ St w [] [rowc (.slice x.1.1 (Fm.rowT t).length x.1.2.1) (Fm.rowT t).length 25 3 (flat x.1.2.2)] w'

theorem Row_step (n : Nat) (hn : n ≤ 1099511627776) (hrec : RowC n) : RowC (n + 1) := by
  intro t wb G a c w hsz hr hE
  refine enter Try.func38 rfl Try.ntmps38 rfl (St.init _) ?_
  refine WC.seq ?_
  refine WC.region ?_
  refine WL.step ?_
  refine WL.boxN rfl rfl (fun b1 => ?_)
  refine WL.step ?_
  refine WL.assign rfl rfl ?_
  refine WL.nil ?_
  refine WQ.then_normal ?_
  refine WC.seq ?_
  refine WC.region ?_
  refine WL.step ?_
  refine WL.loadW F.agg25 rfl rfl (by repeat (first | exact List.Mem.head _ | apply List.Mem.tail)) rfl ?_
  refine WL.step ?_
  refine WL.buildSlice F.sl23 F.ez23 rfl rfl rfl rfl (by repeat (first | exact Built.nil | apply Built.one rfl rfl (by repeat constructor) | apply Built.agg rfl rfl (by repeat constructor))) rfl (fun b6 => ?_)
  refine WL.step ?_
  refine WL.assign rfl rfl ?_
  refine WL.nil ?_
  refine WQ.then_normal ?_
  refine WC.seq ?_
  refine WC.seq ?_
  refine WC.region ?_
  refine WL.step ?_
  refine WL.assign rfl rfl ?_
  refine WL.nil ?_
  refine WQ.then_normal ?_
  refine WC.block ?_
  refine WC.chunks (C' := [pt b1 [Value.int .u8 t.op, .string (str t.name), .slice a t.kids.length c] 25, rowc (.slice (some ⟨b6, 0, none⟩) 1 1) 1 25 3 (flat [tv t a c])]) (fun w hS => ?_) ?_
  · exact ((St.pick (St.pick (St.rowOf (n := 1) (sz := 3) (St.pick hS (c := pt b6 [Value.int .u8 t.op, .string (str t.name), .slice a t.kids.length c] 25) (by repeat (first | exact Rem.here | apply Rem.there))) rfl (by decide)) (c := rowc (.slice (some ⟨b6, 0, none⟩) 1 1) 1 25 3 [Value.int .u8 t.op, .string (str t.name), .slice a t.kids.length c]) (by repeat (first | exact Rem.here | apply Rem.there))) (c := pt b1 [Value.int .u8 t.op, .string (str t.name), .slice a t.kids.length c] 25) (by repeat (first | exact Rem.here | apply Rem.there)))).sublist (List.Sublist.cons_cons _ (List.Sublist.cons_cons _ (List.nil_sublist _)))
  refine WC.loop (α := Nat × List Value × Option Addr × Nat) (fun g => g.1 ≤ t.kids.length ∧ NodesOk wb (t :: Fm.rowL (t.kids.take g.1)) g.2.1) (fun g => [(1, pp b1), (3, .slice g.2.2.1 (t :: Fm.rowL (t.kids.take g.1)).length g.2.2.2), (4, .int .i64 (g.1 : Int))]) (fun g => [pt b1 [Value.int .u8 t.op, .string (str t.name), .slice a t.kids.length c] 25, rowc (.slice g.2.2.1 (t :: Fm.rowL (t.kids.take g.1)).length g.2.2.2) (t :: Fm.rowL (t.kids.take g.1)).length 25 3 (flat g.2.1)]) (fun g => t.kids.length - g.1) ((0, [tv t a c], some ⟨b6, 0, none⟩, 1)) ?_ ?_ ?_ ?_
  · exact ⟨Nat.zero_le _, NodesOk.one hr⟩
  · exact ⟨rfl, rfl, rfl, trivial⟩
  · rfl
  rintro ⟨i, vs, ad, cap⟩ ⟨hi, hok⟩
  dsimp only at hi hok
  show WC _ _ _ _ _ _ _ [(1, pp b1), (3, .slice ad (t :: Fm.rowL (t.kids.take i)).length cap), (4, .int .i64 (i : Int))] [pt b1 [Value.int .u8 t.op, .string (str t.name), .slice a t.kids.length c] 25, rowc (.slice ad (t :: Fm.rowL (t.kids.take i)).length cap) (t :: Fm.rowL (t.kids.take i)).length 25 3 (flat vs)]
  refine WC.seq ?_
  refine WC.seq ?_
  refine WC.region ?_
  refine WL.step ?_
  refine WL.move rfl rfl ?_
  refine WL.step ?_
  refine WL.fieldAddr0 F.fld25_2 rfl rfl ?_
  refine WL.step ?_
  refine WL.loadP F.one23 rfl rfl (by repeat (first | exact List.Mem.head _ | apply List.Mem.tail)) rfl ?_
  refine WL.step ?_
  refine WL.lenSl F.und23 rfl rfl ?_
  refine WL.step ?_
  refine WL.ltI rfl rfl rfl ?_
  refine WL.nil ?_
  refine WQ.then_normal ?_
  refine WC.cond rfl (fun h11 => ?_) (fun h11 => ?_)
  · skip
    have hlt : i < t.kids.length := by simpa using h11
    obtain ⟨k, hk⟩ : ∃ k, t.kids[i]? = some k := ⟨_, List.getElem?_eq_getElem hlt⟩
    obtain ⟨b, off, F1, a1, c1, rfl, hb, hF1, hrk, hck⟩ := rdT_at hr hk
    have hks := Fm.rowT_kid hk
    have hkl := Fm.kids_le t
    have hN : (t :: Fm.rowL (t.kids.take i)).length + (Fm.rowT k).length = (t :: Fm.rowL (t.kids.take (i + 1))).length := by rw [Fm.rowL_take hk]; simp; omega
    have hN2 : (t :: Fm.rowL (t.kids.take (i + 1))).length ≤ (Fm.rowT t).length := by rw [Fm.rowT_eq t]; have := Fm.rowL_take_le t.kids (i + 1); simp; omega
    refine WC.skip ?_
    refine WQ.then_normal ?_
    refine WC.seq ?_
    refine WC.block ?_
    refine WC.region ?_
    refine WL.step ?_
    refine WL.move rfl rfl ?_
    refine WL.step ?_
    refine WL.fieldAddr0 F.fld25_2 rfl rfl ?_
    refine WL.step ?_
    refine WL.loadP F.one23 rfl rfl (by repeat (first | exact List.Mem.head _ | apply List.Mem.tail)) rfl ?_
    refine WL.step ?_
    refine WL.move rfl rfl ?_
    refine WL.step ?_
    refine WL.indexAddr F.sl23 rfl rfl rfl hlt ?_
    refine WL.step ?_
    refine WL.loadN F.agg25 rfl rfl (vs := [Value.int .u8 k.op, .string (str k.name), .slice a1 k.kids.length c1]) rfl (fun w hS j v hv => (hE.st hS).cell (hck j v hv)) ?_
    refine WL.step ?_
    refine WL.callC (β := { y : Option Addr × Nat × List Value // NodesOk wb (Fm.rowT k) y.2.2 }) (res := fun x => .slice x.1.1 (Fm.rowT k).length x.1.2.1) (cs := fun x => [rowc (.slice x.1.1 (Fm.rowT k).length x.1.2.1) (Fm.rowT k).length 25 3 (flat x.1.2.2)]) (Cs := []) (O' := []) F.fun38 (fun d h => by cases h; rfl) rfl (List.Perm.refl _) (by simp) (by simp) (fun w hS _ => hrec k wb F1 a1 c1 w (by omega) hrk (hE.st hS)) (fun y20 => ?_)
    obtain ⟨⟨ad2, cap2, vs2⟩, hok2⟩ := y20
    refine WA.know (φ := ∃ g, ad2 = some ⟨g, 0, none⟩ ∧ (Fm.rowT k).length = (Fm.rowT k).length ∧ (Fm.rowT k).length ≤ cap2) (fun w hS => rowc_addr (hS.ok (rowc (.slice ad2 (Fm.rowT k).length cap2) (Fm.rowT k).length 25 3 (flat vs2)) (by repeat (first | exact List.Mem.head _ | apply List.Mem.tail))) (by rw [Fm.rowT_eq]; simp)) (fun ⟨g, hg, _, _⟩ => ?_)
    subst hg
    refine WL.step ?_
    refine WL.appendE (n := (t :: Fm.rowL (t.kids.take i)).length) (m := (Fm.rowT k).length) (news := flat vs2) F.el23 rfl rfl rfl (by repeat (first | exact Rem.here | apply Rem.there)) (fun w hS j u hu => by rw [Nat.zero_add]; exact rowc_cells (hS.ok (rowc (.slice (some ⟨g, 0, none⟩) (Fm.rowT k).length cap2) (Fm.rowT k).length 25 3 (flat vs2)) (by repeat (first | exact List.Mem.head _ | apply List.Mem.tail))) hu) hok2.flat_len hok2.flat_one (Nat.le_trans (m := 1099511627777) (by omega) (by decide)) (by omega) (fun ad3 cap3 => ?_)
    refine WL.step ?_
    refine WL.assign rfl rfl ?_
    refine WL.nil ?_
    refine WQ.block_normal ?_
    refine WQ.then_normal ?_
    refine WC.region ?_
    refine WL.step ?_
    refine WL.move rfl rfl ?_
    refine WL.step ?_
    refine WL.add rfl rfl rfl ⟨by omega, by omega⟩ ?_
    refine WL.step ?_
    refine WL.assign rfl rfl ?_
    refine WL.nil ?_
    rw [hN, ← flat_append]
    refine WQ.chunks (C' := [pt b1 [Value.int .u8 t.op, .string (str t.name), .slice (some ⟨b, off, none⟩) t.kids.length c] 25, rowc (.slice ad3 (t :: Fm.rowL (t.kids.take (i + 1))).length cap3) (t :: Fm.rowL (t.kids.take (i + 1))).length 25 3 (flat (vs ++ vs2))]) (fun w hS => ((St.pick (St.pick hS (c := rowc (.slice ad3 (t :: Fm.rowL (t.kids.take (i + 1))).length cap3) (t :: Fm.rowL (t.kids.take (i + 1))).length 25 3 (flat (vs ++ vs2))) (by repeat (first | exact Rem.here | apply Rem.there))) (c := pt b1 [Value.int .u8 t.op, .string (str t.name), .slice (some ⟨b, off, none⟩) t.kids.length c] 25) (by repeat (first | exact Rem.here | apply Rem.there)))).sublist (List.Sublist.cons_cons _ (List.Sublist.cons_cons _ (List.nil_sublist _)))) ?_
    refine WQ.back ((i + 1, vs ++ vs2, ad3, cap3)) ?_ ?_ ?_ ?_
    · exact ⟨by show i + 1 ≤ _; omega, by show NodesOk wb (t :: Fm.rowL (t.kids.take (i + 1))) (vs ++ vs2); rw [Fm.rowL_take hk, ← List.cons_append]; exact hok.append hok2⟩
    · (show t.kids.length - (i + 1) < t.kids.length - i; omega)
    · exact ⟨rfl, rfl, rfl, trivial⟩
    · rfl
  · skip
    have hie : i = t.kids.length := by simp at h11; omega
    subst hie
    rw [List.take_length, ← Fm.rowT_eq] at hok ⊢
    refine WC.exit ?_
    refine WQ.then_exit ?_
    refine WQ.then_exit ?_
    refine WQ.block_exit ?_
    refine WQ.then_normal ?_
    refine WC.seq ?_
    refine WC.region ?_
    refine WL.step ?_
    refine WL.move rfl rfl ?_
    refine WL.step ?_
    refine WL.assign rfl rfl ?_
    refine WL.nil ?_
    refine WQ.then_normal ?_
    refine WC.ret ?_
    exact WQ.ret (rs := [.tmp 2]) rfl (.tmp rfl .nil) (fun w hS => ⟨⟨(ad, cap, vs), hok⟩, rfl, ((St.pick hS (c := rowc (.slice ad (Fm.rowT t).length cap) (Fm.rowT t).length 25 3 (flat vs)) (by repeat (first | exact Rem.here | apply Rem.there)))).one1⟩)

theorem Row_c : ∀ n, n ≤ 1099511627776 → RowC n
  | 0, _ => fun t wb G a c w hsz _ _ => by rw [Fm.rowT_eq] at hsz; simp at hsz
  | n + 1, h => Row_step n (by omega) (Row_c n (by omega))
def LevC (n : Nat) : Prop := ∀ (t : Tree) (wb : World) (G : List Nat) (a : Option Addr) (c : Nat) (w : World), (Fm.rowT t).length ≤ n → rdT wb t G (tv t a c) → Ext wb w → Pure Try.prog 39 [tv t a c] w (.int .i64 (Fm.levT t : Int))

theorem Lev_step (n : Nat) (hn : n ≤ 1099511627776) (hrec : LevC n) : LevC (n + 1) := by
  intro t wb G a c w hsz hr hE
  refine enter Try.func39 rfl Try.ntmps39 rfl (St.init _) ?_
  refine WC.seq ?_
  refine WC.region ?_
  refine WL.step ?_
  refine WL.boxN rfl rfl (fun b1 => ?_)
  refine WL.step ?_
  refine WL.assign rfl rfl ?_
  refine WL.nil ?_
  refine WQ.then_normal ?_
  refine WC.seq ?_
  refine WC.region ?_
  refine WL.step ?_
  refine WL.assign rfl rfl ?_
  refine WL.nil ?_
  refine WQ.then_normal ?_
  refine WC.seq ?_
  refine WC.seq ?_
  refine WC.region ?_
  refine WL.step ?_
  refine WL.assign rfl rfl ?_
  refine WL.nil ?_
  refine WQ.then_normal ?_
  refine WC.block ?_
  refine WC.loop (α := Nat) (fun i => i ≤ t.kids.length) (fun i => [(1, pp b1), (3, .int .i64 (Fm.levL (t.kids.take i) : Int)), (4, .int .i64 (i : Int))]) (fun _ => [pt b1 [Value.int .u8 t.op, .string (str t.name), .slice a t.kids.length c] 25]) (fun i => t.kids.length - i) (0) ?_ ?_ ?_ ?_
  · exact Nat.zero_le _
  · exact ⟨rfl, rfl, rfl, trivial⟩
  · rfl
  rintro i hi
  refine WC.seq ?_
  refine WC.seq ?_
  refine WC.region ?_
  refine WL.step ?_
  refine WL.move rfl rfl ?_
  refine WL.step ?_
  refine WL.fieldAddr0 F.fld25_2 rfl rfl ?_
  refine WL.step ?_
  refine WL.loadP F.one23 rfl rfl (by repeat (first | exact List.Mem.head _ | apply List.Mem.tail)) rfl ?_
  refine WL.step ?_
  refine WL.lenSl F.und23 rfl rfl ?_
  refine WL.step ?_
  refine WL.ltI rfl rfl rfl ?_
  refine WL.nil ?_
  refine WQ.then_normal ?_
  refine WC.cond rfl (fun h11 => ?_) (fun h11 => ?_)
  · skip
    have hlt : i < t.kids.length := by simpa using h11
    obtain ⟨k, hk⟩ : ∃ k, t.kids[i]? = some k := ⟨_, List.getElem?_eq_getElem hlt⟩
    obtain ⟨b, off, F1, a1, c1, rfl, hb, hF1, hrk, hck⟩ := rdT_at hr hk
    have hks := Fm.rowT_kid hk
    have hkl := Fm.kids_le t
    refine WC.skip ?_
    refine WQ.then_normal ?_
    refine WC.seq ?_
    refine WC.block ?_
    refine WC.region ?_
    refine WL.step ?_
    refine WL.move rfl rfl ?_
    refine WL.step ?_
    refine WL.fieldAddr0 F.fld25_2 rfl rfl ?_
    refine WL.step ?_
    refine WL.loadP F.one23 rfl rfl (by repeat (first | exact List.Mem.head _ | apply List.Mem.tail)) rfl ?_
    refine WL.step ?_
    refine WL.move rfl rfl ?_
    refine WL.step ?_
    refine WL.indexAddr F.sl23 rfl rfl rfl hlt ?_
    refine WL.step ?_
    refine WL.loadN F.agg25 rfl rfl (vs := [Value.int .u8 k.op, .string (str k.name), .slice a1 k.kids.length c1]) rfl (fun w hS j v hv => (hE.st hS).cell (hck j v hv)) ?_
    refine WL.step ?_
    refine WL.callV F.fun39 rfl rfl (fun w hS => hrec k wb F1 a1 c1 w (by omega) hrk (hE.st hS)) ?_
    refine WL.step ?_
    refine WL.maxI (r := (Fm.levL (t.kids.take (i + 1)) : Int)) rfl rfl rfl (by rw [Fm.levL_take hk]; split <;> omega) ?_
    refine WL.step ?_
    refine WL.assign rfl rfl ?_
    refine WL.nil ?_
    refine WQ.block_normal ?_
    refine WQ.then_normal ?_
    refine WC.region ?_
    refine WL.step ?_
    refine WL.move rfl rfl ?_
    refine WL.step ?_
    refine WL.add rfl rfl rfl ⟨by omega, by omega⟩ ?_
    refine WL.step ?_
    refine WL.assign rfl rfl ?_
    refine WL.nil ?_
    refine WQ.back (i + 1) ?_ ?_ ?_ ?_
    · exact by omega
    · omega
    · exact ⟨rfl, rfl, rfl, trivial⟩
    · rfl
  · skip
    have hie : i = t.kids.length := by simp at h11; omega
    subst hie
    rw [List.take_length]
    have hll := Fm.levT_le t
    rw [Fm.levT_eq] at hll
    refine WC.exit ?_
    refine WQ.then_exit ?_
    refine WQ.then_exit ?_
    refine WQ.block_exit ?_
    refine WQ.then_normal ?_
    refine WC.seq ?_
    refine WC.region ?_
    refine WL.step ?_
    refine WL.move rfl rfl ?_
    refine WL.step ?_
    refine WL.add rfl rfl rfl ⟨by omega, by omega⟩ ?_
    refine WL.step ?_
    refine WL.assign rfl rfl ?_
    refine WL.nil ?_
    refine WQ.then_normal ?_
    refine WC.ret ?_
    exact WQ.ret (rs := [.tmp 2]) rfl (.tmp rfl .nil) (fun w hS => ⟨by rw [Fm.levT_eq]; rfl, hS.drop⟩)

theorem Lev_c : ∀ n, n ≤ 1099511627776 → LevC n
  | 0, _ => fun t wb G a c w hsz _ _ => by rw [Fm.rowT_eq] at hsz; simp at hsz
  | n + 1, h => Lev_step n (by omega) (Lev_c n (by omega))

theorem one_c (t : Tree) (a : Option Addr) (c : Nat) (w : World) : Pure Try.prog 58 [tv t a c] w (.bool (Fm.oneB t)) := by
  refine enter Try.func58 rfl Try.ntmps58 rfl (St.init _) ?_
  refine WC.seq ?_
  refine WC.region ?_
  refine WL.step ?_
  refine WL.boxN rfl rfl (fun b1 => ?_)
  refine WL.step ?_
  refine WL.assign rfl rfl ?_
  refine WL.nil ?_
  refine WQ.then_normal ?_
  refine WC.seq ?_
  refine WC.region ?_
  refine WL.step ?_
  refine WL.fieldAddr0 F.fld25_2 rfl rfl ?_
  refine WL.step ?_
  refine WL.loadP F.one23 rfl rfl (by repeat (first | exact List.Mem.head _ | apply List.Mem.tail)) rfl ?_
  refine WL.step ?_
  refine WL.lenSl F.und23 rfl rfl ?_
  refine WL.step ?_
  refine WL.assign rfl rfl ?_
  refine WL.nil ?_
  refine WQ.then_normal ?_
  refine WC.seq ?_
  refine WC.seq ?_
  refine WC.region ?_
  refine WL.step ?_
  refine WL.fieldAddr0 F.fld25_0 rfl rfl ?_
  refine WL.step ?_
  refine WL.loadP F.one5 rfl rfl (by repeat (first | exact List.Mem.head _ | apply List.Mem.tail)) rfl ?_
  refine WL.step ?_
  refine WL.eqI rfl rfl rfl ?_
  refine WL.nil ?_
  refine WQ.then_normal ?_
  refine WC.cond rfl (fun h9 => ?_) (fun h9 => ?_)
  · skip
    have h9p : t.op = 3 := by simpa using h9
    refine WC.seq ?_
    refine WC.region ?_
    refine WL.step ?_
    refine WL.move rfl rfl ?_
    refine WL.step ?_
    refine WL.eqI rfl rfl rfl ?_
    refine WL.step ?_
    refine WL.move rfl rfl ?_
    refine WA.splitB (i := 12) rfl (fun h12 => ?_) (fun h12 => ?_)
    · skip
      refine WL.step (WL.guardT rfl rfl rfl ?_)
      refine WL.fieldAddr0 F.fld25_1 rfl rfl ?_
      refine WL.step (WL.guardT rfl rfl rfl ?_)
      refine WL.loadP F.one9 rfl rfl (by repeat (first | exact List.Mem.head _ | apply List.Mem.tail)) rfl ?_
      refine WL.step (WL.guardT rfl rfl rfl ?_)
      refine WL.callV F.fun82 rfl rfl (fun w _ => refIsName_c _ w) ?_
      refine WL.step ?_
      refine WL.pickT rfl rfl rfl ?_
      refine WL.step ?_
      refine WL.assign rfl rfl ?_
      refine WL.nil ?_
      refine WQ.then_normal ?_
      refine WC.ret ?_
      refine WQ.then_ret ?_
      refine WQ.ret (rs := [.tmp 2]) rfl (.tmp rfl .nil) (fun w hS => ⟨?_, hS.drop⟩)
      refine congrArg (fun b => Ending.returned (Value.bool b)) ?_
      unfold Fm.oneB
      first | (simp_all; done) | (simp_all; rw [Bool.eq_iff_iff]; simp; done) | (simp_all; rw [Bool.eq_iff_iff]; simp; omega) | (rw [Bool.eq_iff_iff]; simp_all; omega)
    · skip
      refine WL.step (WL.guardF rfl rfl rfl rfl rfl rfl ?_)
      refine WL.step (WL.guardF rfl rfl rfl rfl rfl rfl ?_)
      refine WL.step (WL.guardF rfl rfl rfl rfl rfl rfl ?_)
      refine WL.step ?_
      refine WL.pickF rfl rfl rfl ?_
      refine WL.step ?_
      refine WL.assign rfl rfl ?_
      refine WL.nil ?_
      refine WQ.then_normal ?_
      refine WC.ret ?_
      refine WQ.then_ret ?_
      refine WQ.ret (rs := [.tmp 2]) rfl (.tmp rfl .nil) (fun w hS => ⟨?_, hS.drop⟩)
      refine congrArg (fun b => Ending.returned (Value.bool b)) ?_
      unfold Fm.oneB
      first | (simp_all; done) | (simp_all; rw [Bool.eq_iff_iff]; simp; done) | (simp_all; rw [Bool.eq_iff_iff]; simp; omega) | (rw [Bool.eq_iff_iff]; simp_all; omega)
  · skip
    have h9p : t.op ≠ 3 := by simpa using h9
    refine WC.skip ?_
    refine WQ.then_normal ?_
    refine WC.seq ?_
    refine WC.seq ?_
    refine WC.region ?_
    refine WL.step ?_
    refine WL.fieldAddr0 F.fld25_1 rfl rfl ?_
    refine WL.step ?_
    refine WL.loadP F.one9 rfl rfl (by repeat (first | exact List.Mem.head _ | apply List.Mem.tail)) rfl ?_
    refine WL.step ?_
    refine WL.neS rfl rfl rfl ?_
    refine WL.nil ?_
    refine WQ.then_normal ?_
    refine WC.cond rfl (fun h19 => ?_) (fun h19 => ?_)
    · skip
      have h19p : t.name ≠ [] := by simpa using h19
      refine WC.seq ?_
      refine WC.region ?_
      refine WL.step ?_
      refine WL.assign rfl rfl ?_
      refine WL.nil ?_
      refine WQ.then_normal ?_
      refine WC.ret ?_
      refine WQ.then_ret ?_
      refine WQ.ret (rs := [.tmp 2]) rfl (.tmp rfl .nil) (fun w hS => ⟨?_, hS.drop⟩)
      refine congrArg (fun b => Ending.returned (Value.bool b)) ?_
      unfold Fm.oneB
      first | (simp_all; done) | (simp_all; rw [Bool.eq_iff_iff]; simp; done) | (simp_all; rw [Bool.eq_iff_iff]; simp; omega) | (rw [Bool.eq_iff_iff]; simp_all; omega)
    · skip
      have h19p : t.name = [] := by simpa using h19
      refine WC.skip ?_
      refine WQ.then_normal ?_
      refine WC.seq ?_
      refine WC.seq ?_
      refine WC.region ?_
      refine WL.step ?_
      refine WL.fieldAddr0 F.fld25_0 rfl rfl ?_
      refine WL.step ?_
      refine WL.loadP F.one5 rfl rfl (by repeat (first | exact List.Mem.head _ | apply List.Mem.tail)) rfl ?_
      refine WL.nil ?_
      refine WQ.then_normal ?_
      refine WC.block ?_
      refine WC.seq ?_
      refine WC.seq ?_
      refine WC.region ?_
      refine WL.step ?_
      refine WL.eqI rfl rfl rfl ?_
      refine WL.step ?_
      refine WL.assign rfl rfl ?_
      refine WL.nil ?_
      refine WQ.then_normal ?_
      refine WC.splitB (i := 22) rfl (fun h22 => ?_) (fun h22 => ?_)
      · skip
        refine WC.condT rfl ?_
        refine WC.skip ?_
        refine WQ.then_normal ?_
        refine WC.condT rfl ?_
        refine WC.seq ?_
        refine WC.region ?_
        refine WL.step ?_
        refine WL.move rfl rfl ?_
        refine WL.step ?_
        refine WL.eqI rfl rfl rfl ?_
        refine WL.step ?_
        refine WL.assign rfl rfl ?_
        refine WL.nil ?_
        refine WQ.then_normal ?_
        refine WC.ret ?_
        refine WQ.block_ret ?_
        refine WQ.then_ret ?_
        refine WQ.ret (rs := [.tmp 2]) rfl (.tmp rfl .nil) (fun w hS => ⟨?_, hS.drop⟩)
        refine congrArg (fun b => Ending.returned (Value.bool b)) ?_
        unfold Fm.oneB
        first | (simp_all; done) | (simp_all; rw [Bool.eq_iff_iff]; simp; done) | (simp_all; rw [Bool.eq_iff_iff]; simp; omega) | (rw [Bool.eq_iff_iff]; simp_all; omega)
      · skip
        refine WC.condF rfl ?_
        refine WC.region ?_
        refine WL.step ?_
        refine WL.eqI rfl rfl rfl ?_
        refine WL.step ?_
        refine WL.assign rfl rfl ?_
        refine WL.nil ?_
        refine WQ.then_normal ?_
        refine WC.splitB (i := 22) rfl (fun h22 => ?_) (fun h22 => ?_)
        · skip
          refine WC.condT rfl ?_
          refine WC.seq ?_
          refine WC.region ?_
          refine WL.step ?_
          refine WL.move rfl rfl ?_
          refine WL.step ?_
          refine WL.eqI rfl rfl rfl ?_
          refine WL.step ?_
          refine WL.assign rfl rfl ?_
          refine WL.nil ?_
          refine WQ.then_normal ?_
          refine WC.ret ?_
          refine WQ.block_ret ?_
          refine WQ.then_ret ?_
          refine WQ.ret (rs := [.tmp 2]) rfl (.tmp rfl .nil) (fun w hS => ⟨?_, hS.drop⟩)
          refine congrArg (fun b => Ending.returned (Value.bool b)) ?_
          unfold Fm.oneB
          first | (simp_all; done) | (simp_all; rw [Bool.eq_iff_iff]; simp; done) | (simp_all; rw [Bool.eq_iff_iff]; simp; omega) | (rw [Bool.eq_iff_iff]; simp_all; omega)
        · skip
          refine WC.condF rfl ?_
          refine WC.seq ?_
          refine WC.region ?_
          refine WL.step ?_
          refine WL.eqI rfl rfl rfl ?_
          refine WL.step ?_
          refine WL.assign rfl rfl ?_
          refine WL.nil ?_
          refine WQ.then_normal ?_
          refine WC.cond rfl (fun h27 => ?_) (fun h27 => ?_)
          · skip
            refine WC.seq ?_
            refine WC.region ?_
            refine WL.step ?_
            refine WL.move rfl rfl ?_
            refine WL.step ?_
            refine WL.eqI rfl rfl rfl ?_
            refine WL.step ?_
            refine WL.assign rfl rfl ?_
            refine WL.nil ?_
            refine WQ.then_normal ?_
            refine WC.ret ?_
            refine WQ.block_ret ?_
            refine WQ.then_ret ?_
            refine WQ.ret (rs := [.tmp 2]) rfl (.tmp rfl .nil) (fun w hS => ⟨?_, hS.drop⟩)
            refine congrArg (fun b => Ending.returned (Value.bool b)) ?_
            unfold Fm.oneB
            first | (simp_all; done) | (simp_all; rw [Bool.eq_iff_iff]; simp; done) | (simp_all; rw [Bool.eq_iff_iff]; simp; omega) | (rw [Bool.eq_iff_iff]; simp_all; omega)
          · skip
            refine WC.seq ?_
            refine WC.seq ?_
            refine WC.region ?_
            refine WL.step ?_
            refine WL.eqI rfl rfl rfl ?_
            refine WL.step ?_
            refine WL.assign rfl rfl ?_
            refine WL.nil ?_
            refine WQ.then_normal ?_
            refine WC.splitB (i := 31) rfl (fun h31 => ?_) (fun h31 => ?_)
            · skip
              refine WC.condT rfl ?_
              refine WC.skip ?_
              refine WQ.then_normal ?_
              refine WC.condT rfl ?_
              refine WC.seq ?_
              refine WC.region ?_
              refine WL.step ?_
              refine WL.move rfl rfl ?_
              refine WL.step ?_
              refine WL.geI rfl rfl rfl ?_
              refine WL.step ?_
              refine WL.assign rfl rfl ?_
              refine WL.nil ?_
              refine WQ.then_normal ?_
              refine WC.ret ?_
              refine WQ.block_ret ?_
              refine WQ.then_ret ?_
              refine WQ.ret (rs := [.tmp 2]) rfl (.tmp rfl .nil) (fun w hS => ⟨?_, hS.drop⟩)
              refine congrArg (fun b => Ending.returned (Value.bool b)) ?_
              unfold Fm.oneB
              first | (simp_all; done) | (simp_all; rw [Bool.eq_iff_iff]; simp; done) | (simp_all; rw [Bool.eq_iff_iff]; simp; omega) | (rw [Bool.eq_iff_iff]; simp_all; omega)
            · skip
              refine WC.condF rfl ?_
              refine WC.seq ?_
              refine WC.region ?_
              refine WL.step ?_
              refine WL.eqI rfl rfl rfl ?_
              refine WL.step ?_
              refine WL.assign rfl rfl ?_
              refine WL.nil ?_
              refine WQ.then_normal ?_
              refine WC.splitB (i := 31) rfl (fun h31 => ?_) (fun h31 => ?_)
              · skip
                refine WC.condT rfl ?_
                refine WC.skip ?_
                refine WQ.then_normal ?_
                refine WC.condT rfl ?_
                refine WC.seq ?_
                refine WC.region ?_
                refine WL.step ?_
                refine WL.move rfl rfl ?_
                refine WL.step ?_
                refine WL.geI rfl rfl rfl ?_
                refine WL.step ?_
                refine WL.assign rfl rfl ?_
                refine WL.nil ?_
                refine WQ.then_normal ?_
                refine WC.ret ?_
                refine WQ.block_ret ?_
                refine WQ.then_ret ?_
                refine WQ.ret (rs := [.tmp 2]) rfl (.tmp rfl .nil) (fun w hS => ⟨?_, hS.drop⟩)
                refine congrArg (fun b => Ending.returned (Value.bool b)) ?_
                unfold Fm.oneB
                first | (simp_all; done) | (simp_all; rw [Bool.eq_iff_iff]; simp; done) | (simp_all; rw [Bool.eq_iff_iff]; simp; omega) | (rw [Bool.eq_iff_iff]; simp_all; omega)
              · skip
                refine WC.condF rfl ?_
                refine WC.region ?_
                refine WL.step ?_
                refine WL.eqI rfl rfl rfl ?_
                refine WL.step ?_
                refine WL.assign rfl rfl ?_
                refine WL.nil ?_
                refine WQ.then_normal ?_
                refine WC.splitB (i := 31) rfl (fun h31 => ?_) (fun h31 => ?_)
                · skip
                  refine WC.condT rfl ?_
                  refine WC.seq ?_
                  refine WC.region ?_
                  refine WL.step ?_
                  refine WL.move rfl rfl ?_
                  refine WL.step ?_
                  refine WL.geI rfl rfl rfl ?_
                  refine WL.step ?_
                  refine WL.assign rfl rfl ?_
                  refine WL.nil ?_
                  refine WQ.then_normal ?_
                  refine WC.ret ?_
                  refine WQ.block_ret ?_
                  refine WQ.then_ret ?_
                  refine WQ.ret (rs := [.tmp 2]) rfl (.tmp rfl .nil) (fun w hS => ⟨?_, hS.drop⟩)
                  refine congrArg (fun b => Ending.returned (Value.bool b)) ?_
                  unfold Fm.oneB
                  first | (simp_all; done) | (simp_all; rw [Bool.eq_iff_iff]; simp; done) | (simp_all; rw [Bool.eq_iff_iff]; simp; omega) | (rw [Bool.eq_iff_iff]; simp_all; omega)
                · skip
                  refine WC.condF rfl ?_
                  refine WC.seq ?_
                  refine WC.seq ?_
                  refine WC.region ?_
                  refine WL.step ?_
                  refine WL.eqI rfl rfl rfl ?_
                  refine WL.step ?_
                  refine WL.assign rfl rfl ?_
                  refine WL.nil ?_
                  refine WQ.then_normal ?_
                  refine WC.splitB (i := 37) rfl (fun h37 => ?_) (fun h37 => ?_)
                  · skip
                    refine WC.condT rfl ?_
                    refine WC.skip ?_
                    refine WQ.then_normal ?_
                    refine WC.condT rfl ?_
                    refine WC.seq ?_
                    refine WC.region ?_
                    refine WL.step ?_
                    refine WL.move rfl rfl ?_
                    refine WL.step ?_
                    refine WL.eqI rfl rfl rfl ?_
                    refine WL.step ?_
                    refine WL.assign rfl rfl ?_
                    refine WL.nil ?_
                    refine WQ.then_normal ?_
                    refine WC.ret ?_
                    refine WQ.block_ret ?_
                    refine WQ.then_ret ?_
                    refine WQ.ret (rs := [.tmp 2]) rfl (.tmp rfl .nil) (fun w hS => ⟨?_, hS.drop⟩)
                    refine congrArg (fun b => Ending.returned (Value.bool b)) ?_
                    unfold Fm.oneB
                    first | (simp_all; done) | (simp_all; rw [Bool.eq_iff_iff]; simp; done) | (simp_all; rw [Bool.eq_iff_iff]; simp; omega) | (rw [Bool.eq_iff_iff]; simp_all; omega)
                  · skip
                    refine WC.condF rfl ?_
                    refine WC.region ?_
                    refine WL.step ?_
                    refine WL.eqI rfl rfl rfl ?_
                    refine WL.step ?_
                    refine WL.assign rfl rfl ?_
                    refine WL.nil ?_
                    refine WQ.then_normal ?_
                    refine WC.splitB (i := 37) rfl (fun h37 => ?_) (fun h37 => ?_)
                    · skip
                      refine WC.condT rfl ?_
                      refine WC.seq ?_
                      refine WC.region ?_
                      refine WL.step ?_
                      refine WL.move rfl rfl ?_
                      refine WL.step ?_
                      refine WL.eqI rfl rfl rfl ?_
                      refine WL.step ?_
                      refine WL.assign rfl rfl ?_
                      refine WL.nil ?_
                      refine WQ.then_normal ?_
                      refine WC.ret ?_
                      refine WQ.block_ret ?_
                      refine WQ.then_ret ?_
                      refine WQ.ret (rs := [.tmp 2]) rfl (.tmp rfl .nil) (fun w hS => ⟨?_, hS.drop⟩)
                      refine congrArg (fun b => Ending.returned (Value.bool b)) ?_
                      unfold Fm.oneB
                      first | (simp_all; done) | (simp_all; rw [Bool.eq_iff_iff]; simp; done) | (simp_all; rw [Bool.eq_iff_iff]; simp; omega) | (rw [Bool.eq_iff_iff]; simp_all; omega)
                    · skip
                      refine WC.condF rfl ?_
                      refine WC.seq ?_
                      refine WC.region ?_
                      refine WL.step ?_
                      refine WL.eqI rfl rfl rfl ?_
                      refine WL.step ?_
                      refine WL.assign rfl rfl ?_
                      refine WL.nil ?_
                      refine WQ.then_normal ?_
                      refine WC.cond rfl (fun h42 => ?_) (fun h42 => ?_)
                      · skip
                        refine WC.seq ?_
                        refine WC.region ?_
                        refine WL.step ?_
                        refine WL.move rfl rfl ?_
                        refine WL.step ?_
                        refine WL.eqI rfl rfl rfl ?_
                        refine WL.step ?_
                        refine WL.assign rfl rfl ?_
                        refine WL.nil ?_
                        refine WQ.then_normal ?_
                        refine WC.ret ?_
                        refine WQ.block_ret ?_
                        refine WQ.then_ret ?_
                        refine WQ.ret (rs := [.tmp 2]) rfl (.tmp rfl .nil) (fun w hS => ⟨?_, hS.drop⟩)
                        refine congrArg (fun b => Ending.returned (Value.bool b)) ?_
                        unfold Fm.oneB
                        first | (simp_all; done) | (simp_all; rw [Bool.eq_iff_iff]; simp; done) | (simp_all; rw [Bool.eq_iff_iff]; simp; omega) | (rw [Bool.eq_iff_iff]; simp_all; omega)
                      · skip
                        refine WC.skip ?_
                        refine WQ.block_normal ?_
                        refine WQ.then_normal ?_
                        refine WC.seq ?_
                        refine WC.region ?_
                        refine WL.step ?_
                        refine WL.assign rfl rfl ?_
                        refine WL.nil ?_
                        refine WQ.then_normal ?_
                        refine WC.ret ?_
                        refine WQ.ret (rs := [.tmp 2]) rfl (.tmp rfl .nil) (fun w hS => ⟨?_, hS.drop⟩)
                        refine congrArg (fun b => Ending.returned (Value.bool b)) ?_
                        unfold Fm.oneB
                        first | (simp_all; done) | (simp_all; rw [Bool.eq_iff_iff]; simp; done) | (simp_all; rw [Bool.eq_iff_iff]; simp; omega) | (rw [Bool.eq_iff_iff]; simp_all; omega)

theorem rvalid_c (t : Tree) (wb : World) (G : List Nat) (a : Option Addr) (c : Nat) (w : World) (hsz : (Fm.rowT t).length ≤ 1099511627776) (hr : rdT wb t G (tv t a c)) (hE : Ext wb w) : Pure Try.prog 20 [tv t a c] w (.bool (Fm.refValid t)) := by
  refine enter Try.func20 rfl Try.ntmps20 rfl (St.init _) ?_
  refine WC.seq ?_
  refine WC.region ?_
  refine WL.step ?_
  refine WL.boxN rfl rfl (fun b1 => ?_)
  refine WL.step ?_
  refine WL.assign rfl rfl ?_
  refine WL.nil ?_
  refine WQ.then_normal ?_
  refine WC.seq ?_
  refine WC.region ?_
  refine WL.step ?_
  refine WL.loadW F.agg25 rfl rfl (by repeat (first | exact List.Mem.head _ | apply List.Mem.tail)) rfl ?_
  refine WL.step ?_
  refine WL.callC (β := { y : Option Addr × Nat × List Value // NodesOk wb (Fm.rowT t) y.2.2 }) (res := fun x => .slice x.1.1 (Fm.rowT t).length x.1.2.1) (cs := fun x => [rowc (.slice x.1.1 (Fm.rowT t).length x.1.2.1) (Fm.rowT t).length 25 3 (flat x.1.2.2)]) (Cs := []) (O' := []) F.fun38 (fun d h => by cases h; rfl) rfl (List.Perm.refl _) (by simp) (by simp) (fun w hS _ => Row_c _ hsz t wb G a c w (Nat.le_refl _) hr (hE.st hS)) (fun y6 => ?_)
  obtain ⟨⟨ad, cap, vs⟩, hok⟩ := y6
  refine WA.know (φ := ∃ g, ad = some ⟨g, 0, none⟩ ∧ (Fm.rowT t).length = (Fm.rowT t).length ∧ (Fm.rowT t).length ≤ cap) (fun w hS => rowc_addr (hS.ok (rowc (.slice ad (Fm.rowT t).length cap) (Fm.rowT t).length 25 3 (flat vs)) (by repeat (first | exact List.Mem.head _ | apply List.Mem.tail))) (by rw [Fm.rowT_eq]; simp)) (fun ⟨g, hg, _, _⟩ => ?_)
  subst hg
  refine WL.step ?_
  refine WL.assign rfl rfl ?_
  refine WL.nil ?_
  refine WQ.then_normal ?_
  refine WC.seq ?_
  refine WC.seq ?_
  refine WC.region ?_
  refine WL.step ?_
  refine WL.assign rfl rfl ?_
  refine WL.nil ?_
  refine WQ.then_normal ?_
  refine WC.block ?_
  refine WC.loop (α := Nat) (fun i => i ≤ (Fm.rowT t).length ∧ ((Fm.rowT t).take i).all Fm.oneB = true) (fun i => [(1, pp b1), (3, .slice (some ⟨g, 0, none⟩) (Fm.rowT t).length cap), (4, .int .i64 (i : Int))]) (fun _ => [rowc (.slice (some ⟨g, 0, none⟩) (Fm.rowT t).length cap) (Fm.rowT t).length 25 3 (flat vs), pt b1 [Value.int .u8 t.op, .string (str t.name), .slice a t.kids.length c] 25]) (fun i => (Fm.rowT t).length - i) (0) ?_ ?_ ?_ ?_
  · exact ⟨Nat.zero_le _, rfl⟩
  · exact ⟨rfl, rfl, rfl, trivial⟩
  · rfl
  rintro i ⟨hi, hal⟩
  refine WC.seq ?_
  refine WC.seq ?_
  refine WC.region ?_
  refine WL.step ?_
  refine WL.move rfl rfl ?_
  refine WL.step ?_
  refine WL.move rfl rfl ?_
  refine WL.step ?_
  refine WL.lenSl F.und23 rfl rfl ?_
  refine WL.step ?_
  refine WL.ltI rfl rfl rfl ?_
  refine WL.nil ?_
  refine WQ.then_normal ?_
  refine WC.cond rfl (fun h10 => ?_) (fun h10 => ?_)
  · skip
    have hlt : i < (Fm.rowT t).length := by simpa using h10
    obtain ⟨k, hk⟩ : ∃ k, (Fm.rowT t)[i]? = some k := ⟨_, List.getElem?_eq_getElem hlt⟩
    obtain ⟨F1, a1, c1, hv1, hrk⟩ := hok.at hk
    refine WC.skip ?_
    refine WQ.then_normal ?_
    refine WC.seq ?_
    refine WC.block ?_
    refine WC.seq ?_
    refine WC.region ?_
    refine WL.step ?_
    refine WL.move rfl rfl ?_
    refine WL.step ?_
    refine WL.move rfl rfl ?_
    refine WL.step ?_
    refine WL.indexAddr F.sl23 rfl rfl rfl hlt ?_
    refine WL.step ?_
    refine WL.loadN F.agg25 rfl rfl (vs := [Value.int .u8 k.op, .string (str k.name), .slice a1 k.kids.length c1]) rfl (fun w hS j v hv => by rw [Nat.zero_add]; exact rowc_cells (hS.ok (rowc (.slice (some ⟨g, 0, none⟩) (Fm.rowT t).length cap) (Fm.rowT t).length 25 3 (flat vs)) (by repeat (first | exact List.Mem.head _ | apply List.Mem.tail))) (hok.flat_at hv1 j v hv)) ?_
    refine WL.step ?_
    refine WL.callV F.fun58 rfl rfl (fun w _ => one_c k a1 c1 w) ?_
    refine WL.step ?_
    refine WL.not rfl rfl ?_
    refine WL.nil ?_
    refine WQ.then_normal ?_
    refine WC.cond rfl (fun h18 => ?_) (fun h18 => ?_)
    · skip
      refine WC.seq ?_
      refine WC.region ?_
      refine WL.step ?_
      refine WL.assign rfl rfl ?_
      refine WL.nil ?_
      refine WQ.then_normal ?_
      refine WC.ret ?_
      refine WQ.block_ret ?_
      refine WQ.then_ret ?_
      refine WQ.then_ret ?_
      refine WQ.block_ret ?_
      refine WQ.then_ret ?_
      refine WQ.ret (rs := [.tmp 2]) rfl (.tmp rfl .nil) (fun w hS => ⟨?_, hS.drop.drop⟩)
      have h9 : (Fm.rowT t).all Fm.oneB = false := by rw [List.all_eq_false]; exact ⟨k, List.mem_of_getElem? hk, by simpa using h18⟩
      simp [tup, Fm.refValid, h9]
    · skip
      refine WC.skip ?_
      refine WQ.block_normal ?_
      refine WQ.then_normal ?_
      refine WC.region ?_
      refine WL.step ?_
      refine WL.move rfl rfl ?_
      refine WL.step ?_
      refine WL.add rfl rfl rfl ⟨by omega, by omega⟩ ?_
      refine WL.step ?_
      refine WL.assign rfl rfl ?_
      refine WL.nil ?_
      refine WQ.back (i + 1) ?_ ?_ ?_ ?_
      · exact ⟨by omega, by rw [List.take_add_one, hk]; simp only [Option.toList, List.all_append, hal, List.all_cons, List.all_nil]; simpa using h18⟩
      · omega
      · exact ⟨rfl, rfl, rfl, trivial⟩
      · rfl
  · skip
    have hie : i = (Fm.rowT t).length := by simp at h10; omega
    subst hie
    rw [List.take_length] at hal
    refine WC.exit ?_
    refine WQ.then_exit ?_
    refine WQ.then_exit ?_
    refine WQ.block_exit ?_
    refine WQ.then_normal ?_
    refine WC.seq ?_
    refine WC.region ?_
    refine WL.step ?_
    refine WL.move rfl rfl ?_
    refine WL.step ?_
    refine WL.lenSl F.und23 rfl rfl ?_
    refine WL.step ?_
    refine WL.leI rfl rfl rfl ?_
    refine WL.step ?_
    refine WL.move rfl rfl ?_
    refine WA.splitB (i := 22) rfl (fun h22 => ?_) (fun h22 => ?_)
    · skip
      have hl : (Fm.rowT t).length ≤ 1000 := by simp at h22; omega
      refine WL.step (WL.guardT rfl rfl rfl ?_)
      refine WL.loadW F.agg25 rfl rfl (by repeat (first | exact List.Mem.head _ | apply List.Mem.tail)) rfl ?_
      refine WL.step (WL.guardT rfl rfl rfl ?_)
      refine WL.callV F.fun39 rfl rfl (fun w hS => Lev_c _ hsz t wb G a c w (Nat.le_refl _) hr (hE.st hS)) ?_
      refine WL.step (WL.guardT rfl rfl rfl ?_)
      refine WL.leI rfl rfl rfl ?_
      refine WL.step ?_
      refine WL.pickT rfl rfl rfl ?_
      refine WL.step ?_
      refine WL.assign rfl rfl ?_
      refine WL.nil ?_
      refine WQ.then_normal ?_
      refine WC.ret ?_
      refine WQ.ret (rs := [.tmp 2]) rfl (.tmp rfl .nil) (fun w hS => ⟨?_, hS.drop.drop⟩)
      first | (simp [tup, Fm.refValid, hal, hl]; omega) | (simp [tup, Fm.refValid, hal, hl]; done)
    · skip
      have hl : ¬ (Fm.rowT t).length ≤ 1000 := by simp at h22; omega
      refine WL.step (WL.guardF rfl rfl rfl rfl rfl rfl ?_)
      refine WL.step (WL.guardF rfl rfl rfl rfl rfl rfl ?_)
      refine WL.step (WL.guardF rfl rfl rfl rfl rfl rfl ?_)
      refine WL.step ?_
      refine WL.pickF rfl rfl rfl ?_
      refine WL.step ?_
      refine WL.assign rfl rfl ?_
      refine WL.nil ?_
      refine WQ.then_normal ?_
      refine WC.ret ?_
      refine WQ.ret (rs := [.tmp 2]) rfl (.tmp rfl .nil) (fun w hS => ⟨?_, hS.drop.drop⟩)
      first | (simp [tup, Fm.refValid, hal, hl]; omega) | (simp [tup, Fm.refValid, hal, hl]; done)

end Go.Proofs.Ytbippghgkbapnaa

namespace Go.Proofs.Ytbippghgkbapnaa
open Go Go.Eng Go.Proofs
def SameC (f n : Nat) : Prop := ∀ (x y : Tree) (wb : World) (G H : List Nat) (a a2 : Option Addr) (c c2 : Nat) (w : World), (Fm.rowT x).length ≤ n → rdT wb x G (tv x a c) → rdT wb y H (tv y a2 c2) → Ext wb w → Pure Try.prog f [tv x a c, tv y a2 c2] w (.bool (Fm.sameT x y))

/-- What the reference's Parse answers. -/
def refParse (text : List UInt8) : Tree × Int × Int := ((Fm.top text).1, ((Fm.top text).2.1 : Int), (Fm.top text).2.2)

end Go.Proofs.Ytbippghgkbapnaa

namespace Go.Proofs.Ytbippghgkbapnaa
open Go Go.Eng Go.Proofs
def CntC (lv : Nat) : Prop := ∀ (t : Tree) (left : Int) (wb : World) (G : List Nat) (a : Option Addr) (c : Nat) (w : World), -1 ≤ left → left ≤ 1200 → rdT wb t G (tv t a c) → Ext wb w → Pure Try.prog 50 [tv t a c, .int .i64 (lv : Int), .int .i64 left] w (.int .i64 (Fm.cntT lv left t))

theorem count_step (lv : Nat) (hlv : lv ≤ 1000) (hrec : 0 < lv → CntC (lv - 1)) : CntC lv := by
  intro t left wb G a c w hl0 hl1 hr hE
  refine enter Try.func50 rfl Try.ntmps50 rfl (St.init _) ?_
  refine WC.seq ?_
  refine WC.region ?_
  refine WL.step ?_
  refine WL.boxN rfl rfl (fun b3 => ?_)
  refine WL.step ?_
  refine WL.assign rfl rfl ?_
  refine WL.nil ?_
  refine WQ.then_normal ?_
  refine WC.seq ?_
  refine WC.region ?_
  refine WL.step ?_
  refine WL.move rfl rfl ?_
  refine WL.step ?_
  refine WL.sub rfl rfl rfl ⟨by omega, by omega⟩ ?_
  refine WL.step ?_
  refine WL.assign rfl rfl ?_
  refine WL.nil ?_
  refine WQ.then_normal ?_
  refine WC.seq ?_
  refine WC.seq ?_
  refine WC.cutF [(21, .bool (decide (lv = 0) || decide (left - 1 < 0) || decide (100 < t.name.length))), (1, .int .i64 (lv : Int)), (2, .int .i64 (left - 1)), (3, pp b3)] (fun Q' hQ => ?_) ?_
  · skip
    refine WC.region ?_
    refine WL.step ?_
    refine WL.move rfl rfl ?_
    refine WL.step ?_
    refine WL.eqI rfl rfl rfl ?_
    refine WL.step ?_
    refine WL.move rfl rfl ?_
    refine WA.splitB (i := 12) rfl (fun g12 => ?_) (fun g12 => ?_)
    · skip
      refine WL.step (WL.guardF rfl rfl rfl rfl rfl rfl ?_)
      refine WL.step (WL.guardF rfl rfl rfl rfl rfl rfl ?_)
      refine WL.step ?_
      refine WL.pickT rfl rfl rfl ?_
      refine WL.step ?_
      refine WL.move rfl rfl ?_
      refine WL.step (WL.guardF rfl rfl rfl rfl rfl rfl ?_)
      refine WL.step (WL.guardF rfl rfl rfl rfl rfl rfl ?_)
      refine WL.step (WL.guardF rfl rfl rfl rfl rfl rfl ?_)
      refine WL.step (WL.guardF rfl rfl rfl rfl rfl rfl ?_)
      refine WL.step ?_
      refine WL.pickT rfl rfl rfl ?_
      refine WL.nil ?_
      refine WQ.byCut hQ (subF_bool ?_ ⟨rfl, rfl, rfl, trivial⟩ rfl)
      have e0 : ((lv : Int) == 0) = decide (lv = 0) := by rw [Bool.eq_iff_iff]; simp
      have e1 : decide ((100 : Int) < (t.name.length : Int)) = decide (100 < t.name.length) := by rw [Bool.eq_iff_iff]; simp; omega
      first | (simp_all; done) | (simp_all; omega)
    · skip
      refine WL.step (WL.guardT rfl rfl rfl ?_)
      refine WL.move rfl rfl ?_
      refine WL.step (WL.guardT rfl rfl rfl ?_)
      refine WL.ltI rfl rfl rfl ?_
      refine WL.step ?_
      refine WL.pickF rfl rfl rfl ?_
      refine WL.step ?_
      refine WL.move rfl rfl ?_
      refine WA.splitB (i := 16) rfl (fun g16 => ?_) (fun g16 => ?_)
      · skip
        refine WL.step (WL.guardF rfl rfl rfl rfl rfl rfl ?_)
        refine WL.step (WL.guardF rfl rfl rfl rfl rfl rfl ?_)
        refine WL.step (WL.guardF rfl rfl rfl rfl rfl rfl ?_)
        refine WL.step (WL.guardF rfl rfl rfl rfl rfl rfl ?_)
        refine WL.step ?_
        refine WL.pickT rfl rfl rfl ?_
        refine WL.nil ?_
        refine WQ.byCut hQ (subF_bool ?_ ⟨rfl, rfl, rfl, trivial⟩ rfl)
        have e0 : ((lv : Int) == 0) = decide (lv = 0) := by rw [Bool.eq_iff_iff]; simp
        have e1 : decide ((100 : Int) < (t.name.length : Int)) = decide (100 < t.name.length) := by rw [Bool.eq_iff_iff]; simp; omega
        first | (simp_all; done) | (simp_all; omega)
      · skip
        refine WL.step (WL.guardT rfl rfl rfl ?_)
        refine WL.fieldAddr0 F.fld25_1 rfl rfl ?_
        refine WL.step (WL.guardT rfl rfl rfl ?_)
        refine WL.loadP F.one9 rfl rfl (by repeat (first | exact List.Mem.head _ | apply List.Mem.tail)) rfl ?_
        refine WL.step (WL.guardT rfl rfl rfl ?_)
        refine WL.lenS F.und9 rfl rfl ?_
        refine WL.step (WL.guardT rfl rfl rfl ?_)
        refine WL.gtI rfl rfl rfl ?_
        refine WL.step ?_
        refine WL.pickF rfl rfl rfl ?_
        refine WL.nil ?_
        refine WQ.byCut hQ (subF_bool ?_ ⟨rfl, rfl, rfl, trivial⟩ rfl)
        have e0 : ((lv : Int) == 0) = decide (lv = 0) := by rw [Bool.eq_iff_iff]; simp
        have e1 : decide ((100 : Int) < (t.name.length : Int)) = decide (100 < t.name.length) := by rw [Bool.eq_iff_iff]; simp; omega
        first | (simp_all; done) | (simp_all; omega)
  refine WQ.then_normal ?_
  refine WC.cond rfl (fun h21 => ?_) (fun h21 => ?_)
  · skip
    have hc : Fm.cntT lv left t = -1 := by rw [Fm.cntT_mk, if_pos]; simpa [or_assoc] using h21
    refine WC.seq ?_
    refine WC.region ?_
    refine WL.step ?_
    refine WL.assign rfl rfl ?_
    refine WL.nil ?_
    refine WQ.then_normal ?_
    refine WC.ret ?_
    refine WQ.then_ret ?_
    exact WQ.ret (rs := [.tmp 6]) rfl (.tmp rfl .nil) (fun w hS => ⟨by rw [hc]; rfl, hS.drop⟩)
  · skip
    have hcn : ¬ (lv = 0 ∨ left - 1 < 0 ∨ 100 < t.name.length) := by intro h0; have h9 : (decide (lv = 0) || decide (left - 1 < 0) || decide (100 < t.name.length)) = true := (by simpa [or_assoc] using h0); rw [h9] at h21; cases h21
    have hc : Fm.cntT lv left t = (Fm.cntL (lv - 1) (left - 1) t.kids) := by rw [Fm.cntT_mk, if_neg hcn]
    simp only [not_or] at hcn
    refine WC.skip ?_
    refine WQ.then_normal ?_
    refine WC.seq ?_
    refine WC.seq ?_
    refine WC.region ?_
    refine WL.step ?_
    refine WL.assign rfl rfl ?_
    refine WL.nil ?_
    refine WQ.then_normal ?_
    refine WC.block ?_
    refine WC.loop (α := Nat × Int) (fun g => g.1 ≤ t.kids.length ∧ -1 ≤ g.2 ∧ (g.1 : Int) + g.2 ≤ 1200 ∧ Fm.cntL (lv - 1) g.2 (t.kids.drop g.1) = (Fm.cntL (lv - 1) (left - 1) t.kids)) (fun g => [(1, .int .i64 (lv : Int)), (2, .int .i64 g.2), (3, pp b3), (7, .int .i64 (g.1 : Int))]) (fun _ => [pt b3 [Value.int .u8 t.op, .string (str t.name), .slice a t.kids.length c] 25]) (fun g => t.kids.length - g.1) ((0, left - 1)) ?_ ?_ ?_ ?_
    · exact ⟨Nat.zero_le _, by dsimp only; omega, by dsimp only; omega, rfl⟩
    · exact ⟨rfl, rfl, rfl, rfl, trivial⟩
    · rfl
    rintro ⟨i, l⟩ ⟨hi, hl2, hl3, hcl⟩
    dsimp only at hi hl2 hl3 hcl
    show WC _ _ _ _ _ _ _ [(1, .int .i64 (lv : Int)), (2, .int .i64 l), (3, pp b3), (7, .int .i64 (i : Int))] [pt b3 [Value.int .u8 t.op, .string (str t.name), .slice a t.kids.length c] 25]
    refine WC.seq ?_
    refine WC.seq ?_
    refine WC.region ?_
    refine WL.step ?_
    refine WL.move rfl rfl ?_
    refine WL.step ?_
    refine WL.fieldAddr0 F.fld25_2 rfl rfl ?_
    refine WL.step ?_
    refine WL.loadP F.one23 rfl rfl (by repeat (first | exact List.Mem.head _ | apply List.Mem.tail)) rfl ?_
    refine WL.step ?_
    refine WL.lenSl F.und23 rfl rfl ?_
    refine WL.step ?_
    refine WL.ltI rfl rfl rfl ?_
    refine WL.step ?_
    refine WL.move rfl rfl ?_
    refine WA.splitB (i := 27) rfl (fun h27 => ?_) (fun h27 => ?_)
    · skip
      have hlt : i < t.kids.length := by simpa using h27
      refine WL.step (WL.guardT rfl rfl rfl ?_)
      refine WL.move rfl rfl ?_
      refine WL.step (WL.guardT rfl rfl rfl ?_)
      refine WL.geI rfl rfl rfl ?_
      refine WL.step ?_
      refine WL.pickT rfl rfl rfl ?_
      refine WL.nil ?_
      refine WQ.then_normal ?_
      refine WC.cond rfl (fun h30 => ?_) (fun h30 => ?_)
      · skip
        have hl4 : 0 ≤ l := by simpa using h30
        obtain ⟨k, hk⟩ : ∃ k, t.kids[i]? = some k := ⟨_, List.getElem?_eq_getElem hlt⟩
        obtain ⟨b, off, F1, a1, c1, rfl, hb, hF1, hrk, hck⟩ := rdT_at hr hk
        have hkb := Fm.cntT_le (lv - 1) l k hl4
        refine WC.skip ?_
        refine WQ.then_normal ?_
        refine WC.seq ?_
        refine WC.block ?_
        refine WC.region ?_
        refine WL.step ?_
        refine WL.fieldAddr0 F.fld25_2 rfl rfl ?_
        refine WL.step ?_
        refine WL.loadP F.one23 rfl rfl (by repeat (first | exact List.Mem.head _ | apply List.Mem.tail)) rfl ?_
        refine WL.step ?_
        refine WL.move rfl rfl ?_
        refine WL.step ?_
        refine WL.indexAddr F.sl23 rfl rfl rfl hlt ?_
        refine WL.step ?_
        refine WL.loadN F.agg25 rfl rfl (vs := [Value.int .u8 k.op, .string (str k.name), .slice a1 k.kids.length c1]) rfl (fun w hS j v hv => (hE.st hS).cell (hck j v hv)) ?_
        refine WL.step ?_
        refine WL.move rfl rfl ?_
        refine WL.step ?_
        refine WL.sub rfl rfl rfl ⟨by omega, by omega⟩ ?_
        refine WA.say 39 (.int .i64 ((lv - 1 : Nat) : Int)) (congrArg (fun z => some (Value.int .i64 z)) (show (lv : Int) - 1 = ((lv - 1 : Nat) : Int) by omega)) ?_
        refine WL.step ?_
        refine WL.move rfl rfl ?_
        refine WL.step ?_
        refine WL.callV F.fun50 rfl rfl (fun w hS => hrec (by omega) k l wb F1 a1 c1 w (by omega) (by omega) hrk (hE.st hS)) ?_
        refine WL.step ?_
        refine WL.assign rfl rfl ?_
        refine WL.nil ?_
        refine WQ.block_normal ?_
        refine WQ.then_normal ?_
        refine WC.region ?_
        refine WL.step ?_
        refine WL.move rfl rfl ?_
        refine WL.step ?_
        refine WL.add rfl rfl rfl ⟨by omega, by omega⟩ ?_
        refine WL.step ?_
        refine WL.assign rfl rfl ?_
        refine WL.nil ?_
        refine WQ.back ((i + 1, Fm.cntT (lv - 1) l k)) ?_ ?_ ?_ ?_
        · exact ⟨by show i + 1 ≤ _; omega, hkb.2, by show ((i + 1 : Nat) : Int) + Fm.cntT (lv - 1) l k ≤ 1200; omega, by rw [← hcl, Fm.cntL_drop hk (by omega)]⟩
        · (show t.kids.length - (i + 1) < t.kids.length - i; omega)
        · exact ⟨rfl, rfl, rfl, rfl, trivial⟩
        · rfl
      · skip
        have hl5 : l = (Fm.cntL (lv - 1) (left - 1) t.kids) := by rw [← hcl]; exact (Fm.cntL_stop (by simp at h30; omega)).symm
        refine WC.exit ?_
        refine WQ.then_exit ?_
        refine WQ.then_exit ?_
        refine WQ.block_exit ?_
        refine WQ.then_normal ?_
        refine WC.seq ?_
        refine WC.region ?_
        refine WL.step ?_
        refine WL.move rfl rfl ?_
        refine WL.step ?_
        refine WL.assign rfl rfl ?_
        refine WL.nil ?_
        refine WQ.then_normal ?_
        refine WC.ret ?_
        exact WQ.ret (rs := [.tmp 6]) rfl (.tmp rfl .nil) (fun w hS => ⟨by rw [hc, ← hl5]; rfl, hS.drop⟩)
    · skip
      have hie : i = t.kids.length := by simp at h27; omega
      have hl5 : l = (Fm.cntL (lv - 1) (left - 1) t.kids) := by rw [← hcl, hie, List.drop_length]; rfl
      refine WL.step (WL.guardF rfl rfl rfl rfl rfl rfl ?_)
      refine WL.step (WL.guardF rfl rfl rfl rfl rfl rfl ?_)
      refine WL.step ?_
      refine WL.pickF rfl rfl rfl ?_
      refine WL.nil ?_
      refine WQ.then_normal ?_
      refine WC.condF rfl ?_
      refine WC.exit ?_
      refine WQ.then_exit ?_
      refine WQ.then_exit ?_
      refine WQ.block_exit ?_
      refine WQ.then_normal ?_
      refine WC.seq ?_
      refine WC.region ?_
      refine WL.step ?_
      refine WL.move rfl rfl ?_
      refine WL.step ?_
      refine WL.assign rfl rfl ?_
      refine WL.nil ?_
      refine WQ.then_normal ?_
      refine WC.ret ?_
      exact WQ.ret (rs := [.tmp 6]) rfl (.tmp rfl .nil) (fun w hS => ⟨by rw [hc, ← hl5]; rfl, hS.drop⟩)

theorem count_c : ∀ lv, lv ≤ 1000 → CntC lv
  | 0, h => count_step 0 h (fun h0 => absurd h0 (by decide))
  | lv + 1, h => count_step (lv + 1) h (fun _ => count_c lv (by omega))

theorem great_c (t : Tree) (lv : Nat) (hlv : lv ≤ 1000) (wb : World) (G : List Nat) (a : Option Addr) (c : Nat) (w : World) (hr : rdT wb t G (tv t a c)) (hE : Ext wb w) : Pure Try.prog 17 [tv t a c, .int .i64 (lv : Int)] w (.bool (Fm.greatB t lv)) := by
  refine enter Try.func17 rfl Try.ntmps17 rfl (St.init _) ?_
  refine WC.seq ?_
  refine WC.region ?_
  refine WL.step ?_
  refine WL.boxN rfl rfl (fun b2 => ?_)
  refine WL.step ?_
  refine WL.assign rfl rfl ?_
  refine WL.nil ?_
  refine WQ.then_normal ?_
  refine WC.seq ?_
  refine WC.region ?_
  refine WL.step ?_
  refine WL.loadW F.agg25 rfl rfl (by repeat (first | exact List.Mem.head _ | apply List.Mem.tail)) rfl ?_
  refine WL.step ?_
  refine WL.move rfl rfl ?_
  refine WL.step ?_
  refine WL.callV F.fun50 rfl rfl (fun w hS => count_c lv hlv t 1200 wb G a c w (by omega) (by omega) hr (hE.st hS)) ?_
  refine WL.step ?_
  refine WL.ltI rfl rfl rfl ?_
  refine WL.step ?_
  refine WL.assign rfl rfl ?_
  refine WL.nil ?_
  refine WQ.then_normal ?_
  refine WC.ret ?_
  exact WQ.ret (rs := [.tmp 4]) rfl (.tmp rfl .nil) (fun w hS => ⟨rfl, hS.drop⟩)

def CopC (n : Nat) : Prop := ∀ (t : Tree) (wb : World) (G : List Nat) (a : Option Addr) (c : Nat) (w : World), (Fm.rowT t).length ≤ n → rdT wb t G (tv t a c) → Ext wb w →
  Calls Try.prog 18 [tv t a c].toArray w fun e w' => ∃ y : List Nat × Option Addr × Nat, e = .returned (tv t y.2.1 y.2.2) ∧ St w [] [own y.1 t (tv t y.2.1 y.2.2)] w'
structure CG where
  i : Nat
  F : List Nat
  vs : List Value
  ad : Option Addr
  cap : Nat

end Go.Proofs.Ytbippghgkbapnaa

namespace Go.Proofs.Ytbippghgkbapnaa
open Go Go.Eng Go.Proofs
def TxC (n : Nat) : Prop := ∀ (t : Tree) (wb : World) (G : List Nat) (a : Option Addr) (c : Nat) (w : World), (Fm.rowT t).length ≤ n → (Fm.textT t).length ≤ 1099511627776 → rdT wb t G (tv t a c) → Ext wb w → Pure Try.prog 21 [tv t a c] w (.string (str (Fm.textT t)))

end Go.Proofs.Ytbippghgkbapnaa

namespace Go.Proofs.Ytbippghgkbapnaa
open Go Go.Eng Go.Proofs
theorem valid_all {t : Tree} (h : Fm.validB t = true) : (Fm.rowT t).all Fm.rightB = true ∧ (Fm.rowT t).length ≤ 1000 := by
  have h1 := h
  rw [← Fm.refValid_eq, Fm.refValid] at h1
  simp only [Bool.and_eq_true, decide_eq_true_eq] at h1
  refine ⟨?_, h1.1.2⟩
  have he : (Fm.rowT t).all Fm.oneB = (Fm.rowT t).all Fm.rightB := by congr 1; funext x; exact Fm.oneB_right x
  rw [← he]; exact h1.1.1
theorem text_len {t : Tree} (h : Fm.validB t = true) : (Fm.textT t).length ≤ 50000 := by
  rw [← Fm.put_text t (valid_all h).1]
  unfold Fm.validB at h
  obtain ⟨l, hl⟩ := Option.isSome_iff_exists.1 h
  have := Fm.putS_len hl
  omega

end Go.Proofs.Ytbippghgkbapnaa

namespace Go.Proofs.Ytbippghgkbapnaa
open Go Go.Eng Go.Proofs
theorem EqualFunc_c (n : Nat) (hn : n ≤ 1099511627776) (hrec : SameC 29 n) (x y : Tree) (wb : World) (G H : List Nat) (a a2 : Option Addr) (c c2 : Nat) (w : World) (hsz : (Fm.rowT x).length ≤ n + 1) (hr : rdT wb x G (tv x a c)) (hr2 : rdT wb y H (tv y a2 c2)) (hE : Ext wb w) :
    Pure Try.prog 70 [.slice a x.kids.length c, .slice a2 y.kids.length c2, .func (.func 29) [].toArray [].toArray] w (.bool (Fm.sameL x.kids y.kids)) := by
  have hkl := Fm.kids_le x
  refine enter Try.func70 rfl Try.ntmps70 rfl (St.init _) ?_
  refine WC.seq ?_
  refine WC.region ?_
  refine WL.step ?_
  refine WL.assign rfl rfl ?_
  refine WL.nil ?_
  refine WQ.then_normal ?_
  refine WC.seq ?_
  refine WC.seq ?_
  refine WC.region ?_
  refine WL.step ?_
  refine WL.move rfl rfl ?_
  refine WL.step ?_
  refine WL.lenSl F.und23 rfl rfl ?_
  refine WL.step ?_
  refine WL.move rfl rfl ?_
  refine WL.step ?_
  refine WL.lenSl F.und23 rfl rfl ?_
  refine WL.step ?_
  refine WL.neI rfl rfl rfl ?_
  refine WL.nil ?_
  refine WQ.then_normal ?_
  refine WC.cond rfl (fun h14 => ?_) (fun h14 => ?_)
  · skip
    have hln : x.kids.length ≠ y.kids.length := by intro h0; rw [h0] at h14; simp at h14
    have hres := Fm.sameL_len hln
    refine WC.seq ?_
    refine WC.region ?_
    refine WL.step ?_
    refine WL.assign rfl rfl ?_
    refine WL.nil ?_
    refine WQ.then_normal ?_
    refine WC.ret ?_
    refine WQ.then_ret ?_
    exact WQ.ret (rs := [.tmp 6]) rfl (.tmp rfl .nil) (fun w hS => ⟨by rw [hres]; rfl, hS.sublist (List.nil_sublist _)⟩)
  · skip
    have hln : x.kids.length = y.kids.length := by simp at h14; omega
    refine WC.skip ?_
    refine WQ.then_normal ?_
    refine WC.seq ?_
    refine WC.seq ?_
    refine WC.region ?_
    refine WL.step ?_
    refine WL.move rfl rfl ?_
    refine WL.step ?_
    refine WL.lenSl F.und23 rfl rfl ?_
    refine WL.step ?_
    refine WL.move rfl rfl ?_
    refine WL.nil ?_
    refine WQ.then_normal ?_
    refine WC.block ?_
    refine WC.loop (α := Nat) (fun i => i ≤ x.kids.length ∧ Fm.sameL (x.kids.drop i) (y.kids.drop i) = Fm.sameL x.kids y.kids) (fun i => [(0, .slice a x.kids.length c), (1, .slice a2 y.kids.length c2), (2, .func (.func 29) [].toArray [].toArray), (15, .slice a x.kids.length c), (16, .int .i64 (x.kids.length : Int)), (17, .int .i64 (i : Int))]) (fun _ => []) (fun i => x.kids.length - i) (0) ?_ ?_ ?_ ?_
    · exact ⟨Nat.zero_le _, rfl⟩
    · exact ⟨rfl, rfl, rfl, rfl, rfl, rfl, trivial⟩
    · rfl
    rintro i ⟨hi, hsl⟩
    refine WC.seq ?_
    refine WC.region ?_
    refine WL.step ?_
    refine WL.ltI rfl rfl rfl ?_
    refine WL.nil ?_
    refine WQ.then_normal ?_
    refine WC.seq ?_
    refine WC.cond rfl (fun h31 => ?_) (fun h31 => ?_)
    · skip
      have hlt : i < x.kids.length := by simpa using h31
      have hlt2 : i < y.kids.length := by omega
      obtain ⟨k, hk⟩ : ∃ k, x.kids[i]? = some k := ⟨_, List.getElem?_eq_getElem hlt⟩
      obtain ⟨l, hl⟩ : ∃ k, y.kids[i]? = some k := ⟨_, List.getElem?_eq_getElem hlt2⟩
      obtain ⟨b, off, F1, a1, c1, rfl, hb, hF1, hrk, hck⟩ := rdT_at hr hk
      obtain ⟨e, eoff, F3, a3, c3, rfl, hb3, hF3, hrl, hcl⟩ := rdT_at hr2 hl
      have hks := Fm.rowT_kid hk
      refine WC.skip ?_
      refine WQ.then_normal ?_
      refine WC.seq ?_
      refine WC.block ?_
      refine WC.seq ?_
      refine WC.region ?_
      refine WL.step ?_
      refine WL.move rfl rfl ?_
      refine WL.step ?_
      refine WL.indexAddr F.sl23 rfl rfl rfl hlt ?_
      refine WL.step ?_
      refine WL.loadN F.agg25 rfl rfl (vs := [Value.int .u8 k.op, .string (str k.name), .slice a1 k.kids.length c1]) rfl (fun w hS j v hv => (hE.st hS).cell (hck j v hv)) ?_
      refine WL.step ?_
      refine WL.alloc F.zero25 rfl (fun b8 => ?_)
      refine WL.step ?_
      refine WL.assign rfl rfl ?_
      refine WL.step ?_
      refine WL.storeN F.agg25 rfl rfl rfl (by simp [Value.oneCell']) (by repeat (first | exact Upd.here | apply Upd.there)) (by repeat constructor) ?_
      refine WL.nil ?_
      refine WQ.then_normal ?_
      refine WC.seq ?_
      refine WC.region ?_
      refine WL.step ?_
      refine WL.move rfl rfl ?_
      refine WL.step ?_
      refine WL.move rfl rfl ?_
      refine WL.step ?_
      refine WL.indexAddr F.sl23 rfl rfl rfl hlt2 ?_
      refine WL.step ?_
      refine WL.loadN F.agg25 rfl rfl (vs := [Value.int .u8 l.op, .string (str l.name), .slice a3 l.kids.length c3]) rfl (fun w hS j v hv => (hE.st hS).cell (hcl j v hv)) ?_
      refine WL.step ?_
      refine WL.alloc F.zero25 rfl (fun b9 => ?_)
      refine WL.step ?_
      refine WL.storeN F.agg25 rfl rfl rfl (by simp [Value.oneCell']) (by repeat (first | exact Upd.here | apply Upd.there)) (by repeat constructor) ?_
      refine WL.nil ?_
      refine WQ.then_normal ?_
      refine WC.seq ?_
      refine WC.region ?_
      refine WL.step ?_
      refine WL.move rfl rfl ?_
      refine WL.step ?_
      refine WL.loadW F.agg25 rfl rfl (by repeat (first | exact List.Mem.head _ | apply List.Mem.tail)) rfl ?_
      refine WL.step ?_
      refine WL.loadW F.agg25 rfl rfl (by repeat (first | exact List.Mem.head _ | apply List.Mem.tail)) rfl ?_
      refine WL.step ?_
      refine WL.callFC (β := Unit) (res := fun _ => .bool (Fm.sameT k l)) (cs := fun _ => []) (Cs := []) (O' := []) (us := []) (cap := []) F.fun29 (fun d h => by cases h; rfl) rfl rfl (List.Perm.refl _) (by simp) (by simp) (fun w hS _ => (hrec k l wb F1 F3 a1 a3 c1 c3 w (by omega) hrk hrl (hE.st hS)).mono (fun e w2 h => ⟨(), h⟩)) (fun _ => ?_)
      refine WL.step ?_
      refine WL.not rfl rfl ?_
      refine WL.nil ?_
      refine WQ.then_normal ?_
      refine WC.cond rfl (fun h45 => ?_) (fun h45 => ?_)
      · skip
        have hres : Fm.sameL x.kids y.kids = false := by
          rw [← hsl, Fm.sameL_drop hk hl, show Fm.sameT k l = false by simpa using h45]; rfl
        refine WC.seq ?_
        refine WC.region ?_
        refine WL.step ?_
        refine WL.assign rfl rfl ?_
        refine WL.nil ?_
        refine WQ.then_normal ?_
        refine WC.ret ?_
        refine WQ.block_ret ?_
        refine WQ.then_ret ?_
        refine WQ.then_ret ?_
        refine WQ.block_ret ?_
        refine WQ.then_ret ?_
        exact WQ.ret (rs := [.tmp 6]) rfl (.tmp rfl .nil) (fun w hS => ⟨by rw [hres]; rfl, hS.sublist (List.nil_sublist _)⟩)
      · skip
        refine WC.skip ?_
        refine WQ.block_normal ?_
        refine WQ.then_normal ?_
        refine WC.region ?_
        refine WL.step ?_
        refine WL.add rfl rfl rfl ⟨by omega, by omega⟩ ?_
        refine WL.step ?_
        refine WL.move rfl rfl ?_
        refine WL.nil ?_
        refine WQ.chunks (C' := []) (fun w hS => hS.sublist (List.nil_sublist _)) ?_
        refine WQ.back (i + 1) ?_ ?_ ?_ ?_
        · exact ⟨by omega, by rw [Fm.sameL_drop hk hl, show Fm.sameT k l = true by simpa using h45, Bool.true_and] at hsl; exact hsl⟩
        · omega
        · exact ⟨rfl, rfl, rfl, rfl, rfl, rfl, trivial⟩
        · rfl
    · skip
      have hie : i = x.kids.length := by simp at h31; omega
      subst hie
      have hres : Fm.sameL x.kids y.kids = true := by rw [← hsl, List.drop_length, hln, List.drop_length]; rfl
      refine WC.exit ?_
      refine WQ.then_exit ?_
      refine WQ.then_exit ?_
      refine WQ.block_exit ?_
      refine WQ.then_normal ?_
      refine WC.seq ?_
      refine WC.region ?_
      refine WL.step ?_
      refine WL.assign rfl rfl ?_
      refine WL.nil ?_
      refine WQ.then_normal ?_
      refine WC.ret ?_
      exact WQ.ret (rs := [.tmp 6]) rfl (.tmp rfl .nil) (fun w hS => ⟨by rw [hres]; rfl, hS.sublist (List.nil_sublist _)⟩)

theorem Same_step (n : Nat) (hn : n ≤ 1099511627776) (hrec : SameC 29 n) : SameC 29 (n + 1) := by
  intro x y wb G H a a2 c c2 w hsz hr hr2 hE
  refine enter Try.func29 rfl Try.ntmps29 rfl (St.init _) ?_
  refine WC.seq ?_
  refine WC.region ?_
  refine WL.step ?_
  refine WL.boxN rfl rfl (fun b2 => ?_)
  refine WL.step ?_
  refine WL.boxN rfl rfl (fun b3 => ?_)
  refine WL.step ?_
  refine WL.assign rfl rfl ?_
  refine WL.nil ?_
  refine WQ.then_normal ?_
  refine WC.seq ?_
  refine WC.region ?_
  refine WL.step ?_
  refine WL.fieldAddr0 F.fld25_0 rfl rfl ?_
  refine WL.step ?_
  refine WL.loadP F.one5 rfl rfl (by repeat (first | exact List.Mem.head _ | apply List.Mem.tail)) rfl ?_
  refine WL.step ?_
  refine WL.fieldAddr0 F.fld25_0 rfl rfl ?_
  refine WL.step ?_
  refine WL.loadP F.one5 rfl rfl (by repeat (first | exact List.Mem.head _ | apply List.Mem.tail)) rfl ?_
  refine WL.step ?_
  refine WL.eqI rfl rfl rfl ?_
  refine WL.step ?_
  refine WL.move rfl rfl ?_
  refine WA.splitB (i := 10) rfl (fun h10 => ?_) (fun h10 => ?_)
  · skip
    have hop : x.op = y.op := by simpa using h10
    refine WL.step (WL.guardT rfl rfl rfl ?_)
    refine WL.fieldAddr0 F.fld25_1 rfl rfl ?_
    refine WL.step (WL.guardT rfl rfl rfl ?_)
    refine WL.loadP F.one9 rfl rfl (by repeat (first | exact List.Mem.head _ | apply List.Mem.tail)) rfl ?_
    refine WL.step (WL.guardT rfl rfl rfl ?_)
    refine WL.fieldAddr0 F.fld25_1 rfl rfl ?_
    refine WL.step (WL.guardT rfl rfl rfl ?_)
    refine WL.loadP F.one9 rfl rfl (by repeat (first | exact List.Mem.head _ | apply List.Mem.tail)) rfl ?_
    refine WL.step (WL.guardT rfl rfl rfl ?_)
    refine WL.eqS rfl rfl rfl ?_
    refine WL.step ?_
    refine WL.pickT rfl rfl rfl ?_
    refine WL.step ?_
    refine WL.move rfl rfl ?_
    refine WA.splitB (i := 17) rfl (fun h17 => ?_) (fun h17 => ?_)
    · skip
      have hnm : x.name = y.name := by first | (simpa using h17) | (exact absurd h17 (by decide))
      refine WL.step (WL.guardT rfl rfl rfl ?_)
      refine WL.fieldAddr0 F.fld25_2 rfl rfl ?_
      refine WL.step (WL.guardT rfl rfl rfl ?_)
      refine WL.loadP F.one23 rfl rfl (by repeat (first | exact List.Mem.head _ | apply List.Mem.tail)) rfl ?_
      refine WL.step (WL.guardT rfl rfl rfl ?_)
      refine WL.fieldAddr0 F.fld25_2 rfl rfl ?_
      refine WL.step (WL.guardT rfl rfl rfl ?_)
      refine WL.loadP F.one23 rfl rfl (by repeat (first | exact List.Mem.head _ | apply List.Mem.tail)) rfl ?_
      refine WL.step (WL.guardT rfl rfl rfl ?_)
      refine WL.callV F.fun70 rfl rfl (fun w hS => EqualFunc_c n hn hrec x y wb G H a a2 c c2 w hsz hr hr2 (hE.st hS)) ?_
      refine WL.step ?_
      refine WL.pickT rfl rfl rfl ?_
      refine WL.step ?_
      refine WL.assign rfl rfl ?_
      refine WL.nil ?_
      refine WQ.then_normal ?_
      refine WC.ret ?_
      refine WQ.ret (rs := [.tmp 4]) rfl (.tmp rfl .nil) (fun w hS => ⟨?_, hS.drop.drop⟩)
      rw [Fm.sameT_mk]
      first | (rw [decide_eq_true hop, hnm]; simp [tup]; done) | (rcases hnf with h0 | h0 <;> simp [tup, h0]; done) | (simp [tup, hop]; done)
    · skip
      have hnf : x.op ≠ y.op ∨ x.name ≠ y.name := by first | (exact .inl (by assumption)) | (exact .inr (by simpa using h17))
      refine WL.step (WL.guardF rfl rfl rfl rfl rfl rfl ?_)
      refine WL.step (WL.guardF rfl rfl rfl rfl rfl rfl ?_)
      refine WL.step (WL.guardF rfl rfl rfl rfl rfl rfl ?_)
      refine WL.step (WL.guardF rfl rfl rfl rfl rfl rfl ?_)
      refine WL.step (WL.guardF rfl rfl rfl rfl rfl rfl ?_)
      refine WL.step ?_
      refine WL.pickF rfl rfl rfl ?_
      refine WL.step ?_
      refine WL.assign rfl rfl ?_
      refine WL.nil ?_
      refine WQ.then_normal ?_
      refine WC.ret ?_
      refine WQ.ret (rs := [.tmp 4]) rfl (.tmp rfl .nil) (fun w hS => ⟨?_, hS.drop.drop⟩)
      rw [Fm.sameT_mk]
      first | (rw [decide_eq_true hop, hnm]; simp [tup]; done) | (rcases hnf with h0 | h0 <;> simp [tup, h0]; done) | (simp [tup, hop]; done)
  · skip
    have hop : x.op ≠ y.op := by simpa using h10
    refine WL.step (WL.guardF rfl rfl rfl rfl rfl rfl ?_)
    refine WL.step (WL.guardF rfl rfl rfl rfl rfl rfl ?_)
    refine WL.step (WL.guardF rfl rfl rfl rfl rfl rfl ?_)
    refine WL.step (WL.guardF rfl rfl rfl rfl rfl rfl ?_)
    refine WL.step (WL.guardF rfl rfl rfl rfl rfl rfl ?_)
    refine WL.step ?_
    refine WL.pickF rfl rfl rfl ?_
    refine WL.step ?_
    refine WL.move rfl rfl ?_
    refine WL.step (WL.guardF rfl rfl rfl rfl rfl rfl ?_)
    refine WL.step (WL.guardF rfl rfl rfl rfl rfl rfl ?_)
    refine WL.step (WL.guardF rfl rfl rfl rfl rfl rfl ?_)
    refine WL.step (WL.guardF rfl rfl rfl rfl rfl rfl ?_)
    refine WL.step (WL.guardF rfl rfl rfl rfl rfl rfl ?_)
    refine WL.step ?_
    refine WL.pickF rfl rfl rfl ?_
    refine WL.step ?_
    refine WL.assign rfl rfl ?_
    refine WL.nil ?_
    refine WQ.then_normal ?_
    refine WC.ret ?_
    refine WQ.ret (rs := [.tmp 4]) rfl (.tmp rfl .nil) (fun w hS => ⟨?_, hS.drop.drop⟩)
    rw [Fm.sameT_mk]
    first | (rw [decide_eq_true hop, hnm]; simp [tup]; done) | (rcases hnf with h0 | h0 <;> simp [tup, h0]; done) | (simp [tup, hop]; done)

theorem Same_c : ∀ n, n ≤ 1099511627776 → SameC 29 n
  | 0, _ => fun x y wb G H a a2 c c2 w hsz _ _ _ => by rw [Fm.rowT_eq] at hsz; simp at hsz
  | n + 1, h => Same_step n (by omega) (Same_c n (by omega))

theorem FormulaBack_c (t : Tree) (G : List Nat) (a : Option Addr) (c : Nat) (wb : World) (hr : rdT wb t G (tv t a c)) : Pure Try.prog 7 [tv t a c] wb (.bool true) := by
  refine enter Try.func7 rfl Try.ntmps7 rfl (St.init _) ?_
  refine WC.seq ?_
  refine WC.region ?_
  refine WL.step ?_
  refine WL.boxN rfl rfl (fun b1 => ?_)
  refine WL.step ?_
  refine WL.assign rfl rfl ?_
  refine WL.nil ?_
  refine WQ.then_normal ?_
  refine WC.seq ?_
  refine WC.seq ?_
  refine WC.region ?_
  refine WL.step ?_
  refine WL.loadW F.agg25 rfl rfl (by repeat (first | exact List.Mem.head _ | apply List.Mem.tail)) rfl ?_
  refine WL.step ?_
  refine WL.callV F.fun17 rfl rfl (fun w hS => great_c t 100 (by omega) wb G a c w hr ((Ext.refl wb).st hS)) ?_
  refine WL.step ?_
  refine WL.move rfl rfl ?_
  refine WA.splitB (i := 10) rfl (fun g10 => ?_) (fun g10 => ?_)
  · skip
    refine WL.step (WL.guardF rfl rfl rfl rfl rfl rfl ?_)
    refine WL.step (WL.guardF rfl rfl rfl rfl rfl rfl ?_)
    refine WL.step (WL.guardF rfl rfl rfl rfl rfl rfl ?_)
    refine WL.step ?_
    refine WL.pickT rfl rfl rfl ?_
    refine WL.nil ?_
    refine WQ.then_normal ?_
    refine WC.condT rfl ?_
    refine WC.seq ?_
    refine WC.region ?_
    refine WL.step ?_
    refine WL.callV F.fun13 rfl rfl (fun w _ => wakes_c w) ?_
    refine WL.step ?_
    refine WL.assign rfl rfl ?_
    refine WL.nil ?_
    refine WQ.then_normal ?_
    refine WC.ret ?_
    refine WQ.then_ret ?_
    exact WQ.ret (rs := [.tmp 2]) rfl (.tmp rfl .nil) (fun w hS => ⟨rfl, hS.sublist (List.nil_sublist _)⟩)
  · skip
    obtain ⟨hsz, hlv, hsn⟩ := Fm.great_no g10
    refine WL.step (WL.guardT rfl rfl rfl ?_)
    refine WL.loadW F.agg25 rfl rfl (by repeat (first | exact List.Mem.head _ | apply List.Mem.tail)) rfl ?_
    refine WL.step (WL.guardT rfl rfl rfl ?_)
    refine WL.callV (v := .bool (Fm.validB t)) F.fun20 rfl rfl (fun w hS => by have h9 := rvalid_c t wb G a c w (by omega) hr ((Ext.refl wb).st hS); rw [Fm.refValid_eq] at h9; exact h9) ?_
    refine WL.step (WL.guardT rfl rfl rfl ?_)
    refine WL.not rfl rfl ?_
    refine WL.step ?_
    refine WL.pickF rfl rfl rfl ?_
    refine WL.nil ?_
    refine WQ.then_normal ?_
    refine WC.cond rfl (fun h14 => ?_) (fun h14 => ?_)
    · skip
      refine WC.seq ?_
      refine WC.region ?_
      refine WL.step ?_
      refine WL.callV F.fun13 rfl rfl (fun w _ => wakes_c w) ?_
      refine WL.step ?_
      refine WL.assign rfl rfl ?_
      refine WL.nil ?_
      refine WQ.then_normal ?_
      refine WC.ret ?_
      refine WQ.then_ret ?_
      exact WQ.ret (rs := [.tmp 2]) rfl (.tmp rfl .nil) (fun w hS => ⟨rfl, hS.sublist (List.nil_sublist _)⟩)
    · skip
      have hv : Fm.validB t = true := by simpa using h14
      have htl := text_len hv
      have hall := (valid_all hv).1
      have htop := Fm.top_text hv hall (by omega)
      have hpt := Fm.put_text t hall
      refine WC.skip ?_
      refine WQ.then_normal ?_
      refine WC.seq ?_
      refine WC.region ?_
      refine WL.step ?_
      refine WL.loadW F.agg25 rfl rfl (by repeat (first | exact List.Mem.head _ | apply List.Mem.tail)) rfl ?_
      refine WL.step ?_
      refine WL.callV (v := .tuple #[.string (str (Fm.textT t)), .int .i64 0]) F.fun19 rfl rfl (fun w hS => by have h9 := Print_c t G a c w (((Ext.refl wb).st hS).tree hr); rw [printS, hv, if_pos rfl, if_pos rfl, hpt] at h9; exact h9) ?_
      refine WL.step ?_
      refine WL.move rfl rfl ?_
      refine WL.step ?_
      refine WL.extract rfl rfl rfl ?_
      refine WL.step ?_
      refine WL.extract rfl rfl rfl ?_
      refine WL.step ?_
      refine WL.assign rfl rfl ?_
      refine WL.step ?_
      refine WL.assign rfl rfl ?_
      refine WL.nil ?_
      refine WQ.then_normal ?_
      refine WC.seq ?_
      refine WC.region ?_
      refine WL.step ?_
      refine WL.move rfl rfl ?_
      refine WL.step ?_
      refine WL.callC (β := List Nat × Option Addr × Nat) (res := fun y => .tuple #[tv t y.2.1 y.2.2, .int .i64 0, .int .i64 0]) (cs := fun y => [own y.1 t (tv t y.2.1 y.2.2)]) (Cs := []) (O' := []) F.fun14 (fun d h => by cases h; rfl) rfl (List.Perm.refl _) (by simp) (by simp) (fun w hS _ => by have h9 := Parse_c (Fm.textT t) w; rw [htop] at h9; exact h9) (fun y23 => ?_)
      refine WL.step ?_
      refine WL.move rfl rfl ?_
      refine WL.step ?_
      refine WL.extract rfl rfl rfl ?_
      refine WL.step ?_
      refine WL.extract rfl rfl rfl ?_
      refine WL.step ?_
      refine WL.extract rfl rfl rfl ?_
      refine WL.step ?_
      refine WL.alloc F.zero25 rfl (fun b5 => ?_)
      refine WL.step ?_
      refine WL.storeN F.agg25 rfl rfl rfl (by simp [Value.oneCell']) (by repeat (first | exact Upd.here | apply Upd.there)) (by repeat constructor) ?_
      refine WL.step ?_
      refine WL.assign rfl rfl ?_
      refine WL.step ?_
      refine WL.assign rfl rfl ?_
      refine WL.nil ?_
      refine WQ.then_normal ?_
      refine WC.seq ?_
      refine WC.region ?_
      refine WL.step ?_
      refine WL.move rfl rfl ?_
      refine WL.step ?_
      refine WL.eqI rfl rfl rfl ?_
      refine WL.step ?_
      refine WL.move rfl rfl ?_
      refine WA.splitB (i := 29) rfl (fun g29 => ?_) (fun g29 => ?_)
      · skip
        refine WL.step (WL.guardT rfl rfl rfl ?_)
        refine WL.move rfl rfl ?_
        refine WL.step (WL.guardT rfl rfl rfl ?_)
        refine WL.eqI rfl rfl rfl ?_
        refine WL.step ?_
        refine WL.pickT rfl rfl rfl ?_
        refine WL.step ?_
        refine WL.move rfl rfl ?_
        refine WA.splitB (i := 33) rfl (fun g33 => ?_) (fun g33 => ?_)
        · skip
          refine WL.step (WL.guardT rfl rfl rfl ?_)
          refine WL.move rfl rfl ?_
          refine WL.step (WL.guardT rfl rfl rfl ?_)
          refine WL.eqI rfl rfl rfl ?_
          refine WL.step ?_
          refine WL.pickT rfl rfl rfl ?_
          refine WL.step ?_
          refine WL.move rfl rfl ?_
          refine WA.splitB (i := 37) rfl (fun g37 => ?_) (fun g37 => ?_)
          · skip
            refine WL.step (WL.guardT rfl rfl rfl ?_)
            refine WL.loadW F.agg25 rfl rfl (by repeat (first | exact List.Mem.head _ | apply List.Mem.tail)) rfl ?_
            refine WL.step (WL.guardT rfl rfl rfl ?_)
            refine WL.loadW F.agg25 rfl rfl (by repeat (first | exact List.Mem.head _ | apply List.Mem.tail)) rfl ?_
            refine WL.step (WL.guardT rfl rfl rfl ?_)
            refine WL.callV (v := .bool true) F.fun29 rfl rfl (fun w hS => by have h9 := Same_c 1200 (by omega) t t w y23.1 G _ _ _ _ w hsz (hS.ok (own y23.1 t (tv t y23.2.1 y23.2.2)) (by repeat (first | exact List.Mem.head _ | apply List.Mem.tail))).2 (((Ext.refl wb).st hS).tree hr) (Ext.refl w); rw [Fm.sameT_refl] at h9; exact h9) ?_
            refine WL.step ?_
            refine WL.pickT rfl rfl rfl ?_
            refine WL.step ?_
            refine WL.move rfl rfl ?_
            refine WA.splitB (i := 42) rfl (fun g42 => ?_) (fun g42 => ?_)
            · skip
              refine WL.step (WL.guardT rfl rfl rfl ?_)
              refine WL.loadW F.agg25 rfl rfl (by repeat (first | exact List.Mem.head _ | apply List.Mem.tail)) rfl ?_
              refine WL.step (WL.guardT rfl rfl rfl ?_)
              refine WL.callV (v := .bool true) F.fun30 rfl rfl (fun w hS => by have h9 := Valid_c t G a c w (((Ext.refl wb).st hS).tree hr); rw [hv] at h9; exact h9) ?_
              refine WL.step ?_
              refine WL.pickT rfl rfl rfl ?_
              refine WL.step ?_
              refine WL.move rfl rfl ?_
              refine WA.splitB (i := 46) rfl (fun g46 => ?_) (fun g46 => ?_)
              · skip
                refine WL.step (WL.guardT rfl rfl rfl ?_)
                refine WL.callV F.fun13 rfl rfl (fun w _ => wakes_c w) ?_
                refine WL.step ?_
                refine WL.pickT rfl rfl rfl ?_
                refine WL.step ?_
                refine WL.assign rfl rfl ?_
                refine WL.nil ?_
                refine WQ.then_normal ?_
                refine WC.ret ?_
                exact WQ.ret (rs := [.tmp 2]) rfl (.tmp rfl .nil) (fun w hS => ⟨rfl, hS.sublist (List.nil_sublist _)⟩)
              · skip
                exact absurd g46 (by decide)
            · skip
              exact absurd g42 (by decide)
          · skip
            exact absurd g37 (by decide)
        · skip
          exact absurd g33 (by decide)
      · skip
        exact absurd g29 (by decide)

end Go.Proofs.Ytbippghgkbapnaa
