import Derived.Test.YtkgllhkhdjodeaaGreatEng7
set_option linter.unusedSimpArgs false
set_option linter.unusedVariables false
namespace Go.Eng
open Go Go.RowKit
section
variable {P : Program} {w0 : World} {O : List Nat} {ops : Array Oper} {Q : Exit → Act → World → Prop} {N : Nat} {D : List Deferred} {L : FL} {C : List Chunk} {K : Act → World → Prop}
variable {d : Nat} {ty : TypeId} {pos : String} {af : Array Edge}

theorem WA.chunksE {α : Type} {C' : α → List Chunk} (hs : ∀ w, St w0 O C w → ∃ x, St w0 O (C' x) w) (h : ∀ x, WA w0 O K N D L (C' x)) : WA w0 O K N D L C := fun a w hF hS => by
  obtain ⟨x, hx⟩ := hs w hS
  exact h x a w hF hx
theorem WC.chunksE {c : Code} {α : Type} {C' : α → List Chunk} (hs : ∀ w, St w0 O C w → ∃ x, St w0 O (C' x) w) (h : ∀ x, WC P w0 O c Q N D L (C' x)) : WC P w0 O c Q N D L C := fun a w hF hS => by
  obtain ⟨x, hx⟩ := hs w hS
  exact h x a w hF hx
theorem WQ.chunksE {e : Exit} {α : Type} {C' : α → List Chunk} (hs : ∀ w, St w0 O C w → ∃ x, St w0 O (C' x) w) (h : ∀ x, WQ w0 O Q e N D L (C' x)) : WQ w0 O Q e N D L C := fun a w hF hS => by
  obtain ⟨x, hx⟩ := hs w hS
  exact h x a w hF hx

theorem run_indexAtA {t e : TypeId} {n sz : Nat} {zs : List Value} (ht : ArT P t e n sz zs) {w : World} {b off : Nat} {k : IntKind} {i : Nat} (hi : i < n) :
    (Instr.indexAt t (.pointer (some ⟨b, off, none⟩)) (.int k i)).run P w = .ok (.pointer (some ⟨b, off + i * sz, none⟩)) w := by
  have h1 : (0 : Int) ≤ (i : Int) ∧ (i : Int) < (n : Int) := by omega
  simp [Instr.indexAt, run_underlying ht.und, asIntOf, h1, hi, run_sizeOf ht.size, add_blk, Instr.sureAddr]
theorem Yl.indexAddrA {F : World → Prop} {t e : TypeId} {n sz : Nat} {zs : List Value} {x y : Operand} {b off : Nat} {k : IntKind} {i : Nat} (ht : ArT P t e n sz zs) (hx : ev L x = some (.pointer (some ⟨b, off, none⟩))) (hy : ev L y = some (.int k i)) (hi : i < n) :
    Yl P N D L F ⟨some d, .indexAddr t x y, ty, pos, af, none⟩ (.pointer (some ⟨b, off + i * sz, none⟩)) := fun a w hF _ => by
      simp [execOp, hF.ev hx, hF.ev hy, run_indexAtA (P := P) ht (w := w) (k := k) hi]
theorem WL.indexAddrA {t e : TypeId} {n sz : Nat} {zs : List Value} {x y : Operand} {b off : Nat} {k : IntKind} {i : Nat} (ht : ArT P t e n sz zs) (hd : Nat.blt d N = true) (hx : ev L x = some (.pointer (some ⟨b, off, none⟩))) (hy : ev L y = some (.int k i)) (hi : i < n)
    (h : WA w0 O K N D ((d, .pointer (some ⟨b, off + i * sz, none⟩)) :: L) C) :
    WK P w0 O ops Q ⟨some d, .indexAddr t x y, ty, pos, af, none⟩ K N D L C := WL.y (F := fun _ => True) (Yl.indexAddrA ht hx hy hi) hd (fun _ _ => trivial) h
end
end Go.Eng

