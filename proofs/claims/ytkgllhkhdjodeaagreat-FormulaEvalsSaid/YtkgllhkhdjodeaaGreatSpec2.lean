import Derived.Test.YtkgllhkhdjodeaaGreatEng8
import Derived.Test.YtkgllhkhdjodeaaGreatSpec
set_option linter.unusedSimpArgs false
set_option linter.unusedVariables false
namespace Fm
open Go Go.Eng
/-- How many kids an operator has (below 0: from two on), and whether there is such an operator. -/
def kidsOf (op : Int) : Int × Bool :=
  if op = 1 ∨ op = 2 ∨ op = 3 then (0, true) else if op = 4 then (1, true) else if op = 5 ∨ op = 6 ∨ op = 7 then (-1, true) else if op = 8 ∨ op = 9 then (2, true) else if op = 10 then (3, true) else (0, false)
def kidsBad (op : Int) (n : Nat) : Bool := !(kidsOf op).2 || ((kidsOf op).1 == -1 && decide ((n : Int) < 2)) || (!((kidsOf op).1 == -1) && !((n : Int) == (kidsOf op).1))
def rightB (t : Tree) : Bool := !kidsBad t.op t.kids.length && (if t.op = 3 then isNameB t.name else t.name == [])
mutual
def validT : Nat → Tree → Nat → Option Nat
  | lv, .mk op name kids, left => if lv = 0 ∨ left = 0 ∨ rightB (.mk op name kids) = false then none else validL (lv - 1) kids (left - 1)
def validL : Nat → List Tree → Nat → Option Nat
  | _, [], left => some left
  | lv, t :: ts, left => match validT lv t left with
    | none => none
    | some l => validL lv ts l
end
def validB (t : Tree) : Bool := (validT 64 t 1000).isSome

mutual
theorem validT_le : ∀ {lv : Nat} {t : Tree} {left l : Nat}, validT lv t left = some l → l < left
  | lv, .mk op name kids, left, l, h => by
    simp only [validT] at h
    split at h
    · cases h
    · rename_i hc
      have := validL_le h
      omega
theorem validL_le : ∀ {lv : Nat} {ts : List Tree} {left l : Nat}, validL lv ts left = some l → l ≤ left
  | lv, [], left, l, h => by simp only [validL, Option.some.injEq] at h; omega
  | lv, t :: ts, left, l, h => by
    simp only [validL] at h
    split at h
    · cases h
    · rename_i k hk
      have h1 := validT_le hk
      have h2 := validL_le h
      omega
end
theorem validL_drop {lv : Nat} {ts : List Tree} {i left : Nat} {t : Tree} (h : ts[i]? = some t) : validL lv (ts.drop i) left = match validT lv t left with
    | none => none
    | some l => validL lv (ts.drop (i + 1)) l := by
  obtain ⟨hi, he⟩ := List.getElem?_eq_some_iff.1 h
  rw [List.drop_eq_getElem_cons hi, he]
  simp only [validL]
end Fm
namespace Go.Eng
open Go Go.RowKit
/-- The i-th kid of a node that is read, where it stands. -/
theorem rdT_at {w : World} {t : Tree} {F : List Nat} {a : Option Addr} {c : Nat} {i : Nat} {k : Tree} (h : rdT w t F (tv t a c)) (hi : t.kids[i]? = some k) :
    ∃ b off F1 a1 c1, a = some ⟨b, off, none⟩ ∧ b ∈ F ∧ (∀ x ∈ F1, x ∈ F) ∧ rdT w k F1 (tv k a1 c1) ∧
      (∀ j v, [Value.int .u8 k.op, .string (str k.name), .slice a1 k.kids.length c1][j]? = some v → w.cell? ⟨b, off + i * 3 + j, none⟩ = some v) := by
  obtain ⟨op, name, kids⟩ := t
  obtain ⟨b, off, F1, v0, v1, v2, ha, hb, hF, hr, g0, g1, g2⟩ := (rdT_kid h).2 i k hi
  obtain ⟨a1, n1, c1, hv, hn⟩ := rdT_val hr
  subst hn
  injection hv with hv
  simp only [Array.mk.injEq, List.cons.injEq, and_true] at hv
  obtain ⟨rfl, rfl, rfl⟩ := hv
  refine ⟨b, off, F1, a1, c1, ha, hb, hF, hr, fun j v hj => ?_⟩
  match j, hj with
  | 0, hj => simp at hj; subst hj; exact g0
  | 1, hj => simp at hj; subst hj; exact g1
  | 2, hj => simp at hj; subst hj; exact g2
mutual
theorem rdT_lt {w : World} : ∀ {t : Tree} {F : List Nat} {v : Value}, rdT w t F v → ∀ k ∈ F, k < w.heap.size
  | .mk op name kids, F, v, h => by
    simp only [rdT] at h
    obtain ⟨s, hv, h⟩ := h
    rcases h with ⟨_, hF, _⟩ | ⟨hne, b, off, cap, G, vs, hs, hF, hc, hl⟩
    · subst hF; simp
    · subst hF
      intro k hk
      rcases List.mem_cons.1 hk with rfl | hk
      · have h3 := rdL_flat_len hl
        have hpos : 0 < (flat vs).length := by
          have : 0 < kids.length := List.length_pos_iff.2 hne
          omega
        exact World.block_lt_of_cell? w _ (hc 0 _ (List.getElem?_eq_getElem hpos))
      · exact rdL_lt hl k hk
theorem rdL_lt {w : World} : ∀ {ts : List Tree} {F : List Nat} {vs : List Value}, rdL w ts F vs → ∀ k ∈ F, k < w.heap.size
  | [], F, vs, h => by simp only [rdL] at h; rw [h.1]; simp
  | t :: ts, F, vs, h => by
    simp only [rdL] at h
    obtain ⟨F1, F2, v, vs', hF, hvs, h1, h2⟩ := h
    subst hF
    intro k hk
    rcases List.mem_append.1 hk with hk | hk
    · exact rdT_lt h1 k hk
    · exact rdL_lt h2 k hk
end
section
variable {P : Program} {w0 : World} {O : List Nat} {ops : Array Oper} {Q : Exit → Act → World → Prop} {N : Nat} {D : List Deferred} {L : FL} {C : List Chunk} {K : Act → World → Prop}
variable {d : Nat} {ty : TypeId} {pos : String} {af : Array Edge}
theorem WL.callFA {β : Type} {f : FuncId} {x : Operand} {xs : List Operand} {tys : Array TypeId} {vs us cap : List Value} {v : Value} {c1 : β → Chunk} {b : Nat} {bs : List Value} {e : TypeId} {C1 : List Chunk}
    (hf : funB P f = some true) (hd : Nat.blt d N = true) (hfv : ev L x = some (.func (.func f) us.toArray cap.toArray)) (hx : evs L xs = some vs) (hr : Rem (pt b bs e) C C1)
    (hc : ∀ w, St w0 O C w → Calls P f (us ++ vs ++ cap).toArray w fun e w' => ∃ x, e = .returned v ∧ St w [b] [c1 x] w')
    (h : ∀ x, WA w0 O K N D ((d, v) :: L) (c1 x :: C1)) :
    WK P w0 O ops Q ⟨some d, .call { callee := .value x, args := xs.toArray, argTypes := tys }, ty, pos, af, none⟩ K N D L C :=
  WL.callF1 (β := β) (res := fun _ => .returned v) (cs := fun x => [c1 x]) (ψ := fun _ => True) hf (fun d' e => by cases e; exact hd) hfv hx hr
    (fun w hS => (hc w hS).mono fun e w' ⟨x, h1, h2⟩ => ⟨x, trivial, h1, h2⟩) (fun x _ => h x)
/-- A call that turns the block b, whose new content is not known. -/
theorem WL.call1B {β : Type} {f : FuncId} {xs : List Operand} {tys : Array TypeId} {vs : List Value} {v : Value} {c1 : β → Chunk} {b : Nat} {bs : List Value} {e : TypeId} {C1 : List Chunk}
    (hf : funB P f = some true) (hd : Nat.blt d N = true) (hx : evs L xs = some vs) (hr : Rem (pt b bs e) C C1)
    (hc : ∀ w, St w0 O C w → Calls P f vs.toArray w fun e w' => ∃ x, e = .returned v ∧ St w [b] [c1 x] w')
    (h : ∀ x, WA w0 O K N D ((d, v) :: L) (c1 x :: C1)) :
    WK P w0 O ops Q ⟨some d, .call { callee := .value (.func f), args := xs.toArray, argTypes := tys }, ty, pos, af, none⟩ K N D L C :=
  WL.call1 (β := β) (res := fun _ => .returned v) (cs := fun x => [c1 x]) (ψ := fun _ => True) hf (fun d' e => by cases e; exact hd) hx hr
    (fun w hS => (hc w hS).mono fun e w' ⟨x, h1, h2⟩ => ⟨x, trivial, h1, h2⟩) (fun x _ => h x)
theorem WL.call1C {β : Type} {f : FuncId} {xs : List Operand} {tys : Array TypeId} {vs : List Value} {res : β → Value} {c1 : β → Chunk} {b : Nat} {bs : List Value} {e : TypeId} {C1 : List Chunk}
    (hf : funB P f = some true) (hd : Nat.blt d N = true) (hx : evs L xs = some vs) (hr : Rem (pt b bs e) C C1)
    (hc : ∀ w, St w0 O C w → Calls P f vs.toArray w fun e w' => ∃ x, e = .returned (res x) ∧ St w [b] [c1 x] w')
    (h : ∀ x, WA w0 O K N D ((d, res x) :: L) (c1 x :: C1)) :
    WK P w0 O ops Q ⟨some d, .call { callee := .value (.func f), args := xs.toArray, argTypes := tys }, ty, pos, af, none⟩ K N D L C :=
  WL.call1 (β := β) (res := fun x => .returned (res x)) (cs := fun x => [c1 x]) (ψ := fun _ => True) hf (fun d' e => by cases e; exact hd) hx hr
    (fun w hS => (hc w hS).mono fun e w' ⟨x, h1, h2⟩ => ⟨x, trivial, h1, h2⟩) (fun x _ => h x)
theorem St.ne2 {w : World} {b b' : Nat} {cs cs' : List Value} {e e' : TypeId} (h : St w0 O (pt b cs e :: pt b' cs' e' :: C) w) : b ≠ b' := fun hb => by
  subst hb
  exact (List.pairwise_cons.1 h.disj).1 _ (List.mem_cons_self ..) b rfl rfl
theorem St.oldh {w : World} {b : Nat} {o : Obj} (hS : St w0 O C w) (h : w0.heap[b]? = some o) (hb : b ∉ O) : w.heap[b]? = some o := by
  rw [hS.old b (lt_of_heap h) hb]; exact h
/-- A tree in the older world's memory stands, if none of its blocks may turn. -/
theorem St.oldT {w : World} {t : Tree} {F : List Nat} {v : Value} (hS : St w0 O C w) (h : rdT w0 t F v) (hF : ∀ k ∈ F, k < w0.heap.size ∧ k ∉ O) : rdT w t F v :=
  rdT_loc (fun k hk => hS.old k (hF k hk).1 (hF k hk).2) h
end
end Go.Eng

