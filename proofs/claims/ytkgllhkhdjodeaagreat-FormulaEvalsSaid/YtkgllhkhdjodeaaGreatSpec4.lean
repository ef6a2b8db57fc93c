import Derived.Test.YtkgllhkhdjodeaaGreatSpec3
set_option linter.unusedSimpArgs false
set_option linter.unusedVariables false
namespace Fm
open Go Go.Eng
def signS (op : Int) (i : Int) : List UInt8 :=
  if op = 5 then [38] else if op = 7 then [94] else if op = 6 then [124] else if op = 8 then [61, 62] else if op = 9 then [60, 61, 62] else if i = 1 then [63] else [58]
def bareN (op : Int) (i : Int) : Nat :=
  if op = 5 then 0 else if op = 7 then 1 else if op = 6 then 2 else if op = 8 ∧ i = 0 then 3 else if op = 8 ∨ op = 9 then 4 else if i = 0 then 5 else 6
def bareL : List Int := [5, 7, 6, 8, 9, 10]
mutual
def putS : Tree → List UInt8
  | .mk op name kids => if op = 1 then [48] else if op = 2 then [49] else if op = 3 then name else if op = 4 then [33] ++ putN kids else putK op 0 kids
/-- The kid of a not. -/
def putN : List Tree → List UInt8
  | [] => []
  | k :: _ => if k.op ≤ 4 then putS k else [40] ++ putS k ++ [41]
def putK : Int → Int → List Tree → List UInt8
  | _, _, [] => []
  | op, i, k :: ks => (if 0 < i then [32] ++ signS op i ++ [32] else []) ++ (if (bareL.take (bareN op i)).contains k.op || decide (k.op ≤ 4) then putS k else [40] ++ putS k ++ [41]) ++ putK op (i + 1) ks
end
def kidS (k : Tree) (bare : List Int) : List UInt8 := if bare.contains k.op || decide (k.op ≤ 4) then putS k else [40] ++ putS k ++ [41]


mutual
def notOk : Tree → Bool
  | .mk op _ kids => (!(op == 4) || !kids.isEmpty) && notOkL kids
def notOkL : List Tree → Bool
  | [] => true
  | k :: ks => notOk k && notOkL ks
end
mutual
theorem notOk_valid : ∀ {lv : Nat} {t : Tree} {left l : Nat}, validT lv t left = some l → notOk t = true
  | lv, .mk op name kids, left, l, h => by
    simp only [validT] at h
    split at h
    · cases h
    · rename_i hc
      have h1 := notOkL_valid h
      simp only [notOk, h1, Bool.and_true]
      by_cases h4 : op = 4
      · subst h4
        cases kids with
        | nil =>
          exfalso
          apply hc
          right; right
          simp [rightB, kidsBad, kidsOf, Tree.op, Tree.kids]
        | cons k ks => simp
      · simp [h4]
theorem notOkL_valid : ∀ {lv : Nat} {ts : List Tree} {left l : Nat}, validL lv ts left = some l → notOkL ts = true
  | lv, [], left, l, h => rfl
  | lv, t :: ts, left, l, h => by
    simp only [validL] at h
    split at h
    · cases h
    · rename_i k hk
      simp only [notOkL, notOk_valid hk, notOkL_valid h, Bool.and_self]
end
theorem isName_len {s : List UInt8} (h : isNameB s = true) : 1 ≤ s.length ∧ s.length ≤ 32 := by
  cases s with
  | nil => simp [isNameB] at h
  | cons c r => simp [isNameB] at h ⊢; omega
theorem rightB_name {t : Tree} (h : rightB t = true) (h3 : t.op = 3) : 1 ≤ t.name.length ∧ t.name.length ≤ 32 := by
  simp only [rightB, h3, if_true, Bool.and_eq_true] at h
  exact isName_len h.2
theorem signS_len (op i : Int) : 1 ≤ (signS op i).length ∧ (signS op i).length ≤ 3 := by
  unfold signS
  repeat (first | (split; (exact ⟨by simp, by simp⟩)) | (simp; done) | split)
theorem wrap_len (s : List UInt8) (b : Bool) : (if b = true then s else [40] ++ s ++ [41]).length ≤ s.length + 2 := by
  split <;> simp
mutual
theorem putS_len : ∀ {lv : Nat} {t : Tree} {left l : Nat}, validT lv t left = some l → (putS t).length + 50 * l ≤ 50 * left - 10
  | lv, .mk op name kids, left, l, h => by
    simp only [validT] at h
    split at h
    · cases h
    · rename_i hc
      have hl := validL_le h
      have hK := putK_len h op 0
      have hN := putN_len h
      have hr : rightB (.mk op name kids) = true := by
        cases hh : rightB (.mk op name kids) with
        | true => rfl
        | false => exact absurd (.inr (.inr hh)) hc
      simp only [putS]
      split
      · simp only [List.length_cons, List.length_nil]; omega
      split
      · simp only [List.length_cons, List.length_nil]; omega
      split
      · rename_i h3
        have := rightB_name hr h3
        simp only [Tree.name] at this
        omega
      split
      · simp only [List.length_append, List.length_cons, List.length_nil]; omega
      · omega
theorem putN_len : ∀ {lv : Nat} {ts : List Tree} {left l : Nat}, validL lv ts left = some l → (putN ts).length + 50 * l ≤ 50 * left
  | lv, [], left, l, h => by simp only [validL, Option.some.injEq] at h; simp only [putN, List.length_nil]; omega
  | lv, t :: ts, left, l, h => by
    simp only [validL] at h
    split at h
    · cases h
    · rename_i k hk
      have h1 := putS_len hk
      have h2 := validL_le h
      have h3 := validT_le hk
      simp only [putN]
      split
      · omega
      · simp only [List.length_append, List.length_cons, List.length_nil]; omega
theorem putK_len : ∀ {lv : Nat} {ts : List Tree} {left l : Nat}, validL lv ts left = some l → ∀ op i, (putK op i ts).length + 50 * l ≤ 50 * left
  | lv, [], left, l, h, op, i => by simp only [validL, Option.some.injEq] at h; simp only [putK, List.length_nil]; omega
  | lv, t :: ts, left, l, h, op, i => by
    simp only [validL] at h
    split at h
    · cases h
    · rename_i k hk
      have h1 := putS_len hk
      have h2 := putK_len h op (i + 1)
      have h3 := validT_le hk
      have h4 := wrap_len (putS t) ((bareL.take (bareN op i)).contains t.op || decide (t.op ≤ 4))
      have h5 := signS_len op i
      simp only [putK, List.length_append]
      have h6 : (if 0 < i then [32] ++ signS op i ++ [32] else ([] : List UInt8)).length ≤ 5 := by
        split
        · simp only [List.length_append, List.length_cons, List.length_nil]; omega
        · simp
      omega
end
end Fm

