import Derived.Test.YtbippghgkbapnaaM15
import Derived.Scope
set_option linter.unusedSimpArgs false
set_option linter.unusedVariables false
namespace Go.Eng
open Go Go.RowKit
section
variable {P : Program} {w0 : World} {O : List Nat} {Q : Exit → Act → World → Prop} {N : Nat} {D : List Deferred} {L : FL} {C : List Chunk}
theorem WC.scope {c : Code} (h : WC P w0 O c (Exit.noGoto Q) N D L C) : WC P w0 O (.scope c) Q N D L C := fun a w hF hS => wp_scope_straight (h a w hF hS)
theorem WQ.scope_normal (h : WQ w0 O Q .normal N D L C) : WQ w0 O (Exit.noGoto Q) .normal N D L C := h
theorem WQ.scope_ret (h : WQ w0 O Q .ret N D L C) : WQ w0 O (Exit.noGoto Q) .ret N D L C := h
theorem WQ.scope_exit {i : Nat} (h : WQ w0 O Q (.exit i) N D L C) : WQ w0 O (Exit.noGoto Q) (.exit i) N D L C := h
theorem WQ.scope_panic {ch} (h : WQ w0 O Q (.panic ch) N D L C) : WQ w0 O (Exit.noGoto Q) (.panic ch) N D L C := h

/-- Rows of numbers of the holder's own, by their headers. -/
def stepsC (F : List Nat) (vs : List Value) (ss : List (List Int)) : Chunk where
  fp k := k ∈ F
  ok w := vs.length = ss.length ∧ ∀ (i : Nat) (c : List Int) (u : Value), ss[i]? = some c → vs[i]? = some u → ∃ (a1 : Option Addr) (cap : Nat), u = Value.slice a1 c.length cap ∧ ∀ (j : Nat) (x : Int), c[j]? = some x → ∃ b, a1 = some ⟨b, 0, none⟩ ∧ b ∈ F ∧ w.cell? ⟨b, j, none⟩ = some (.int .i64 x)
  loc w w' h hw := ⟨hw.1, fun i c u hc hu => by
    obtain ⟨a1, cap, h1, h2⟩ := hw.2 i c u hc hu
    refine ⟨a1, cap, h1, fun j x hx => ?_⟩
    obtain ⟨b, hb1, hb2, hb3⟩ := h2 j x hx
    exact ⟨b, hb1, hb2, by rw [World.cell?_of_block (w := w) (w' := w') (a := ⟨b, j, none⟩) (h b hb2)]; exact hb3⟩⟩
theorem St.stepsNil {w : World} (h : St w0 O C w) : St w0 O (stepsC [] [] [] :: C) w :=
  ⟨h.os, h.tape, h.output, h.size, h.old, fun x hx => by
    rcases List.mem_cons.1 hx with rfl | hx
    · exact ⟨rfl, fun i c u hc _ => by simp at hc⟩
    · exact h.ok x hx, fun x hx k hk => by
    rcases List.mem_cons.1 hx with rfl | hx
    · cases hk
    · exact h.bnd x hx k hk, List.Pairwise.cons (fun x hx k hk => by cases hk) h.disj⟩
/-- One row more. -/
theorem St.stepsSnoc {w : World} {F : List Nat} {vs : List Value} {ss : List (List Int)} {b : Nat} {c : List Int} {e : TypeId} (h : St w0 O (stepsC F vs ss :: pt b (c.map (Value.int .i64)) e :: C) w) :
    St w0 O (stepsC (b :: F) (vs ++ [.slice (some ⟨b, 0, none⟩) c.length c.length]) (ss ++ [c]) :: C) w :=
  h.join (fun k hk => by
    rcases List.mem_cons.1 hk with rfl | hk
    · exact .inr rfl
    · exact .inl hk) (fun hc hd _ => by
    obtain ⟨h1, h2⟩ := hc
    have hd' : w.heap[b]? = some (.cells (c.map (Value.int .i64)).toArray e (0, 0)) := hd
    refine ⟨by simp [h1], fun i c' u hc' hu => ?_⟩
    by_cases hi : i < ss.length
    · rw [List.getElem?_append_left hi] at hc'
      rw [List.getElem?_append_left (by omega)] at hu
      obtain ⟨a1, cap, h3, h4⟩ := h2 i c' u hc' hu
      refine ⟨a1, cap, h3, fun j x hx => ?_⟩
      obtain ⟨g, hg1, hg2, hg3⟩ := h4 j x hx
      exact ⟨g, hg1, List.mem_cons_of_mem _ hg2, hg3⟩
    · rw [List.getElem?_append_right (by omega)] at hc'
      rw [List.getElem?_append_right (by omega)] at hu
      have h0 : i - ss.length = 0 := by
        have := (List.getElem?_eq_some_iff.1 hc').1
        simp at this; omega
      rw [h0] at hc'
      rw [h1, h0] at hu
      simp at hc' hu
      subst hc'; subst hu
      refine ⟨_, _, rfl, fun j x hx => ⟨b, rfl, List.mem_cons_self .., ?_⟩⟩
      simp [World.cell?, hd', hx])
end
end Go.Eng
namespace Go.Proofs.Ytbippghgkbapnaa
open Go Go.Eng Go.Proofs
/-- The caller's clauses and the steps, behind one another in a row of headers. -/
theorem RdLL.join {w0 w : World} {C : List Chunk} {ls ss : List (List Int)} {a aa : Option Addr} {us vs hs : List Value} {F : List Nat} {n cap : Nat} (h : RdLL w0 ls a us) (hS : St w0 [] C w) (hhs : hs = us ++ vs) (hn : n = ls.length + ss.length)
    (h1 : rowc (.slice aa n cap) n 54 1 hs ∈ C) (h2 : stepsC F vs ss ∈ C) : RdLL w (ls ++ ss) aa hs := by
  have hn' := h.next hS
  have ho1 := hS.ok _ h1
  have ho2 := hS.ok _ h2
  obtain ⟨hv1, hv2⟩ := (show vs.length = ss.length ∧ _ from ho2)
  refine ⟨by rw [hhs, List.length_append, List.length_append, h.len, hv1], fun i u hu => ?_, fun i c u hc hu => ?_⟩
  · have hpos : 0 < n := by
      have := (List.getElem?_eq_some_iff.1 hu).1
      rw [hhs, List.length_append, h.len, hv1] at this
      omega
    obtain ⟨g, hg, _, _⟩ := rowc_addr ho1 hpos
    subst hg
    exact ⟨g, 0, rfl, by rw [Nat.zero_add]; exact rowc_cell ho1 hu⟩
  · subst hhs
    by_cases hi : i < ls.length
    · rw [List.getElem?_append_left hi] at hc
      rw [List.getElem?_append_left (by rw [h.len]; exact hi)] at hu
      exact hn'.rd i c u hc hu
    · rw [List.getElem?_append_right (by omega)] at hc
      rw [List.getElem?_append_right (by rw [h.len]; omega), h.len] at hu
      obtain ⟨a1, cap1, h3, h4⟩ := hv2 _ c u hc hu
      refine ⟨a1, cap1, h3, fun j x hx => ?_⟩
      obtain ⟨b, hb1, _, hb3⟩ := h4 j x hx
      exact ⟨b, 0, hb1, by rw [Nat.zero_add]; exact hb3⟩
end Go.Proofs.Ytbippghgkbapnaa
