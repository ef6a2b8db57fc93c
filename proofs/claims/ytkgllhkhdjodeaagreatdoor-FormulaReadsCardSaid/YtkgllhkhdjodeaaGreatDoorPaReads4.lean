import Derived.Test.YtkgllhkhdjodeaaGreatDoorPaReads3
set_option linter.unusedSimpArgs false
set_option linter.unusedVariables false
namespace Go.Proofs.YtkgllhkhdjodeaaGreatDoor
open Go Go.Eng Go.Proofs
open Go.RowKit Fm
theorem row_bd (n : Int) (s : List UInt8) : (rowE n s).1.length ≤ 64 := by
 unfold rowE
 dsimp only
 split
 ·simp
 ·split
  ·simp
  ·split
   ·simp
   ·have := valsW_len (w := splitC 32 s) (i := (splitC 32 s).length - 1) (by omega)
    rw [this]; omega
theorem readF_bd : ∀ (l : List (List UInt8)) (i : Nat) (n m : Int) (o : List (List Int)), (∀ c ∈ o, c.length ≤ 64) → (readF l i n m o).2.1.length ≤ o.length + l.length ∧ ∀ c ∈ (readF l i n m o).2.1, c.length ≤ 64
 | [], i, n, m, o, h => by
  unfold readF
  split
  ·exact ⟨by simp, h⟩
  ·exact ⟨by simp, fun c hc => by simp at hc⟩
 | s :: r, i, n, m, o, h => by
  unfold readF
  split
  ·have := readF_bd r (i + 1) n m o h
   exact ⟨by simp only [List.length_cons]; omega, this.2⟩
  ·split
   ·split
    ·have := readF_bd r (i + 1) (headE s).1 (headE s).2.1 o h
     exact ⟨by simp only [List.length_cons]; omega, this.2⟩
    ·exact ⟨by simp, fun c hc => by simp at hc⟩
   ·split
    ·exact ⟨by simp, fun c hc => by simp at hc⟩
    ·split
     ·have := readF_bd r (i + 1) n m (o ++ [(rowE n s).1]) (fun c hc => by
       rcases List.mem_append.1 hc with hc | hc
       ·exact h c hc
       ·rw [List.mem_singleton.1 hc]; exact row_bd n s)
      exact ⟨by simp only [List.length_cons, List.length_append, List.length_nil] at this ⊢; omega, this.2⟩
     ·exact ⟨by simp, fun c hc => by simp at hc⟩
theorem readS_bd (s : List UInt8) : (readS s).2.1.length ≤ s.length + 1 ∧ ∀ c ∈ (readS s).2.1, c.length ≤ 64 := by
 have h1 := readF_bd (linesL s) 0 0 (-1) [] (fun c hc => by simp at hc)
 have h2 := linesL_len s
 refine ⟨?_, h1.2⟩
 have h3 := h1.1
 simp only [List.length_nil] at h3
 unfold readS
 omega

set_option maxRecDepth 100000 in
theorem FormulaReads_c (s : List UInt8) (w : World) (hl : LibW w) : Pure Tryz.prog 3 [.string (str s)] w (.bool true) := by
 refine enter Tryz.func3 rfl Tryz.ntmps3 rfl (St.init _) ?_
 refine jN 17 ?_
 refine WC.cond rfl (fun h13 => ?_) (fun h13 => ?_)
 ·refine jN 3 ?_
  refine WL.callV F.fun5 rfl rfl (fun w _ => wakes_c w) ?_
  refine jN 6 ?_
  exact WQ.ret (rs := [.tmp 2]) rfl (.tmp rfl .nil) (fun w hS => ⟨by first | rfl | simp [tup], hS.sublist (List.nil_sublist _)⟩)
 ·have hsl3 : s.length ≤ 3000 := by simp at h13; omega
  have hsl : s.length ≤ 1000000000 := by omega
  obtain ⟨hb1, hb2⟩ := readS_bd s
  refine jN 7 ?_
  refine jC (β := RowsX) (res := fun x => .tuple #[.int .i64 (readS s).1, .slice x.1.2.1 (readS s).2.1.length x.1.2.2, .int .i64 (readS s).2.2.1, .int .i64 (readS s).2.2.2]) (cs := fun x => [rowc (.slice x.1.2.1 (readS s).2.1.length x.1.2.2) (readS s).2.1.length 46 1 x.1.1.2, stepsC x.1.1.1 x.1.1.2 (readS s).2.1]) F.fun6 rfl (fun w hS _ => Read_c s hsl w (hl.next hS)) (fun x17 => ?_)
  refine jN 25 ?_
  refine jC (β := RowsX) (res := fun x => .tuple #[.int .i64 (readS s).1, .slice x.1.2.1 (readS s).2.1.length x.1.2.2, .int .i64 (readS s).2.2.1, .int .i64 (readS s).2.2.2]) (cs := fun x => [rowc (.slice x.1.2.1 (readS s).2.1.length x.1.2.2) (readS s).2.1.length 46 1 x.1.1.2, stepsC x.1.1.1 x.1.1.2 (readS s).2.1]) F.fun7 rfl (fun w hS _ => rRead_c s hsl w) (fun x24 => ?_)
  refine jN 30 ?_
  refine WA.splitB (i := 32) rfl (fun g32 => ?_) (fun g32 => ?_)
  ·refine jN 8 ?_
   refine WL.callV F.fun8 rfl rfl (fun w hS => lsame_c (readS s).2.1 x17.1.2.1 x24.1.2.1 x17.1.2.2 x24.1.2.2 x17.1.1.2 x24.1.1.2 (by omega) (fun c hc => by have := hb2 c hc; omega) w (RdLL.made rfl (hS.ok (rowc (.slice x17.1.2.1 (readS s).2.1.length x17.1.2.2) (readS s).2.1.length 46 1 x17.1.1.2) jM) (hS.ok (stepsC x17.1.1.1 x17.1.1.2 (readS s).2.1) jM)) (RdLL.made rfl (hS.ok (rowc (.slice x24.1.2.1 (readS s).2.1.length x24.1.2.2) (readS s).2.1.length 46 1 x24.1.1.2) jM) (hS.ok (stepsC x24.1.1.1 x24.1.1.2 (readS s).2.1) jM))) ?_
   refine jN 4 ?_
   refine WA.splitB (i := 37) rfl (fun g37 => ?_) (fun g37 => ?_)
   ·refine jN 13 ?_
    refine WA.splitB (i := 42) rfl (fun g42 => ?_) (fun g42 => ?_)
    ·refine jN 13 ?_
     refine WA.splitB (i := 47) rfl (fun g47 => ?_) (fun g47 => ?_)
     ·refine jN 2 ?_
      refine WL.callV F.fun5 rfl rfl (fun w _ => wakes_c w) ?_
      refine jN 7 ?_
      exact WQ.ret (rs := [.tmp 2]) rfl (.tmp rfl .nil) (fun w hS => ⟨by first | rfl | simp [tup], hS.sublist (List.nil_sublist _)⟩)
     ·exfalso; simp at g47
    ·exfalso; simp at g42
   ·exfalso; cases g37
  ·exfalso; simp at g32

end Go.Proofs.YtkgllhkhdjodeaaGreatDoor
