import Derived.Test.YtbippghgkbapnaaM16
import Derived.Test.YtbippghgkbapnaaSpec
import Derived.Test.YtbippghgkbapnaaFacts
set_option linter.unusedSimpArgs false
set_option linter.unusedVariables false
namespace Go.Proofs.Ytbippghgkbapnaa
open Go Go.Eng Go.Proofs
theorem name_c (s : List UInt8) (w : World) : Pure Try.prog 44 [.string (str s)] w (.agg [Value.int .u8 3, .string (str s), .slice none 0 0].toArray) := by
  refine enter Try.func44 rfl Try.ntmps44 rfl (St.init _) ?_
  refine WC.seq ?_
  refine WC.region ?_
  refine WL.step ?_
  refine WL.alloc F.zero25 rfl (fun b2 => ?_)
  refine WL.nil ?_
  refine WQ.then_normal ?_
  refine WC.seq ?_
  refine WC.region ?_
  refine WL.step ?_
  refine WL.move rfl rfl ?_
  refine WL.step ?_
  refine WL.build F.stT25 rfl (by repeat (first | exact Built.nil | apply Built.one rfl rfl (by repeat constructor) | apply Built.agg rfl rfl (by repeat constructor))) rfl ?_
  refine WL.step ?_
  refine WL.storeN F.agg25 rfl rfl rfl (by simp [Value.oneCell']) (by repeat (first | exact Upd.here | apply Upd.there)) (by repeat constructor) ?_
  refine WL.nil ?_
  refine WQ.then_normal ?_
  refine WC.ret ?_
  refine WQ.ret (rs := [.cell 2 25]) rfl (.cellN F.agg25 rfl (by repeat (first | exact List.Mem.head _ | apply List.Mem.tail)) rfl .nil) (fun w hS => ⟨rfl, hS.drop⟩)

def T1 : Tree := .mk 5 [] [.mk 3 [97] [], .mk 3 [98] [], .mk 5 [] [.mk 3 [99] [], .mk 3 [100] []]]
def T2 : Tree := .mk 5 [] [.mk 6 [] [.mk 3 [97] [], .mk 3 [98] []], .mk 4 [] [.mk 3 [99] []]]
theorem top1 : Fm.top [97, 32, 38, 32, 98, 32, 38, 32, 40, 99, 32, 38, 32, 100, 41] = (T1, 0, 0) := by kernel_rfl
theorem top2 : Fm.top [97, 32, 60, 61, 62, 32, 98, 32, 60, 61, 62, 32, 99] = (Fm.zeroTree, 8, 4) := by kernel_rfl
theorem print1 : printS T2 = [40, 97, 32, 124, 32, 98, 41, 32, 38, 32, 33, 99] := by kernel_rfl
theorem valid1 : Fm.validB T2 = true := by kernel_rfl
theorem sol1 : Fm.solveF 2 20 false [[1, 2], [-1]] [] [] = some ⟨true, 2, []⟩ := by kernel_rfl
theorem sol2 : Fm.solveF 1 20 false [[1], [-1]] [] [] = some ⟨false, 0, [[]]⟩ := by kernel_rfl
theorem may1 : Fm.mayE 2 [[1, 2], [-1]] = 0 := by kernel_rfl
theorem may2 : Fm.mayE 1 [[1], [-1]] = 0 := by kernel_rfl
/-- Two clauses that the caller laid. -/
theorem RdLL.two {w0 w : World} {O : List Nat} {C : List Chunk} {b1 b2 b3 : Nat} {c1 c2 : List Int} (hS : St w0 O C w) (h1 : pt b1 (c1.map (Value.int .i64)) 3 ∈ C) (h2 : pt b2 (c2.map (Value.int .i64)) 3 ∈ C)
    (h3 : pt b3 [.slice (some ⟨b1, 0, none⟩) c1.length c1.length, .slice (some ⟨b2, 0, none⟩) c2.length c2.length] 54 ∈ C) :
    RdLL w [c1, c2] (some ⟨b3, 0, none⟩) [.slice (some ⟨b1, 0, none⟩) c1.length c1.length, .slice (some ⟨b2, 0, none⟩) c2.length c2.length] := by
  refine ⟨rfl, fun i u hu => ⟨b3, 0, rfl, by rw [Nat.zero_add]; exact hS.cell h3 hu⟩, fun i c u hc hu => ?_⟩
  match i, hc, hu with
  | 0, hc, hu =>
    simp at hc hu
    subst hc; subst hu
    exact ⟨_, _, rfl, fun j x hx => ⟨b1, 0, rfl, by rw [Nat.zero_add]; exact hS.cell h1 (by simp [hx])⟩⟩
  | 1, hc, hu =>
    simp at hc hu
    subst hc; subst hu
    exact ⟨_, _, rfl, fun j x hx => ⟨b2, 0, rfl, by rw [Nat.zero_add]; exact hS.cell h2 (by simp [hx])⟩⟩
  | i + 2, hc, hu => simp at hc

theorem wakes_c (w : World) : Pure Try.prog 13 [] w (.bool true) := by
  refine enter Try.func13 rfl Try.ntmps13 rfl (St.init _) ?_
  refine WC.seq ?_
  refine WC.region ?_
  refine WL.step ?_
  refine WL.assign rfl rfl ?_
  refine WL.nil ?_
  refine WQ.then_normal ?_
  refine WC.seq ?_
  refine WC.region ?_
  refine WL.step ?_
  refine WL.callC (β := List Nat × Option Addr × Nat) (res := fun y => .tuple #[tv T1 y.2.1 y.2.2, .int .i64 0, .int .i64 0]) (cs := fun y => [own y.1 T1 (tv T1 y.2.1 y.2.2)]) (Cs := []) (O' := []) F.fun14 (fun d h => by cases h; rfl) rfl (List.Perm.refl _) (by simp) (by simp) (fun w hS _ => (Parse_c [97, 32, 38, 32, 98, 32, 38, 32, 40, 99, 32, 38, 32, 100, 41] w).mono (fun e w2 h => ?_)) (fun y14 => ?_)
  · rw [top1] at h
    exact h
  refine WL.step ?_
  refine WL.move rfl rfl ?_
  refine WL.step ?_
  refine WL.extract rfl rfl rfl ?_
  refine WL.step ?_
  refine WL.extract rfl rfl rfl ?_
  refine WL.step ?_
  refine WL.extract rfl rfl rfl ?_
  refine WL.step ?_
  refine WL.alloc F.zero25 rfl (fun b1 => ?_)
  refine WL.step ?_
  refine WL.storeN F.agg25 rfl rfl rfl (by simp [Value.oneCell']) (by repeat (first | exact Upd.here | apply Upd.there)) (by repeat constructor) ?_
  refine WL.step ?_
  refine WL.assign rfl rfl ?_
  refine WL.step ?_
  refine WL.assign rfl rfl ?_
  refine WL.nil ?_
  refine WQ.then_normal ?_
  refine WC.seq ?_
  refine WC.region ?_
  refine WL.step ?_
  refine WL.callV F.fun44 rfl rfl (fun w _ => name_c [97] w) ?_
  refine WL.step ?_
  refine WL.callV F.fun44 rfl rfl (fun w _ => name_c [98] w) ?_
  refine WL.step ?_
  refine WL.buildSlice F.sl23 F.ez23 rfl rfl rfl rfl (by repeat (first | exact Built.nil | apply Built.one rfl rfl (by repeat constructor) | apply Built.agg rfl rfl (by repeat constructor))) rfl (fun b21 => ?_)
  refine WL.step ?_
  refine WL.build F.stT25 rfl (by repeat (first | exact Built.nil | apply Built.one rfl rfl (by repeat constructor) | apply Built.agg rfl rfl (by repeat constructor))) rfl ?_
  refine WL.step ?_
  refine WL.callV F.fun44 rfl rfl (fun w _ => name_c [99] w) ?_
  refine WL.step ?_
  refine WL.buildSlice F.sl23 F.ez23 rfl rfl rfl rfl (by repeat (first | exact Built.nil | apply Built.one rfl rfl (by repeat constructor) | apply Built.agg rfl rfl (by repeat constructor))) rfl (fun b24 => ?_)
  refine WL.step ?_
  refine WL.build F.stT25 rfl (by repeat (first | exact Built.nil | apply Built.one rfl rfl (by repeat constructor) | apply Built.agg rfl rfl (by repeat constructor))) rfl ?_
  refine WL.step ?_
  refine WL.buildSlice F.sl23 F.ez23 rfl rfl rfl rfl (by repeat (first | exact Built.nil | apply Built.one rfl rfl (by repeat constructor) | apply Built.agg rfl rfl (by repeat constructor))) rfl (fun b26 => ?_)
  refine WL.step ?_
  refine WL.build F.stT25 rfl (by repeat (first | exact Built.nil | apply Built.one rfl rfl (by repeat constructor) | apply Built.agg rfl rfl (by repeat constructor))) rfl ?_
  refine WA.chunksE (C' := fun x : List Nat => [own x T2 (.agg #[.int .u8 5, .string (str []), .slice (some ⟨b26, 0, none⟩) 2 2]), pt b1 [.int .u8 T1.op, .string (str T1.name), .slice y14.2.1 T1.kids.length y14.2.2] 25]) (fun w hS => ?_) (fun G => ?_)
  · have a1 := St.node0 3 [98] (St.node0 3 [97] hS)
    have a2 := St.pick a1 (c := own [] (Tree.mk 3 [97] []) (.agg #[.int .u8 3, .string (str [97]), .slice none 0 0])) (by repeat (first | exact Rem.here | apply Rem.there))
    obtain ⟨F1, a3⟩ := St.node2 6 (t1 := Tree.mk 3 [97] []) (t2 := Tree.mk 3 [98] []) (a1 := none) (a2 := none) (c1 := 0) (c2 := 0) (St.pick a2 (c := pt b21 [.int .u8 3, .string (str [97]), .slice none 0 0, .int .u8 3, .string (str [98]), .slice none 0 0] 25) (by repeat (first | exact Rem.here | apply Rem.there)))
    have a4 := St.node0 3 [99] a3
    obtain ⟨F2, a5⟩ := St.node1 4 (t1 := Tree.mk 3 [99] []) (a1 := none) (c1 := 0) (St.pick a4 (c := pt b24 [.int .u8 3, .string (str [99]), .slice none 0 0] 25) (by repeat (first | exact Rem.here | apply Rem.there)))
    have a6 := St.pick a5 (c := own F1 (.mk 6 [] [Tree.mk 3 [97] [], Tree.mk 3 [98] []]) (.agg #[.int .u8 6, .string (str []), .slice (some ⟨b21, 0, none⟩) 2 2])) (by repeat (first | exact Rem.here | apply Rem.there))
    obtain ⟨F3, a7⟩ := St.node2 5 (t1 := .mk 6 [] [Tree.mk 3 [97] [], Tree.mk 3 [98] []]) (t2 := .mk 4 [] [Tree.mk 3 [99] []]) (a1 := some ⟨b21, 0, none⟩) (a2 := some ⟨b24, 0, none⟩) (c1 := 2) (c2 := 1) (St.pick a6 (c := pt b26 [.int .u8 6, .string (str []), .slice (some ⟨b21, 0, none⟩) 2 2, .int .u8 4, .string (str []), .slice (some ⟨b24, 0, none⟩) 1 1] 25) (by repeat (first | exact Rem.here | apply Rem.there)))
    exact ⟨F3, ((St.pick (St.pick a7 (c := pt b1 [.int .u8 T1.op, .string (str T1.name), .slice y14.2.1 T1.kids.length y14.2.2] 25) (by repeat (first | exact Rem.here | apply Rem.there))) (c := own F3 T2 (.agg #[.int .u8 5, .string (str []), .slice (some ⟨b26, 0, none⟩) 2 2])) (by repeat (first | exact Rem.here | apply Rem.there)))).two2⟩
  refine WL.step ?_
  refine WL.callV (v := .tuple #[.string (str [40, 97, 32, 124, 32, 98, 41, 32, 38, 32, 33, 99]), .int .i64 0]) F.fun19 rfl rfl (fun w hS => by have h9 := Print_c T2 G (some ⟨b26, 0, none⟩) 2 w (hS.ok _ (List.Mem.head _)).2; rw [print1, valid1] at h9; exact h9) ?_
  refine WL.step ?_
  refine WL.move rfl rfl ?_
  refine WL.step ?_
  refine WL.extract rfl rfl rfl ?_
  refine WL.step ?_
  refine WL.extract rfl rfl rfl ?_
  refine WL.step ?_
  refine WL.assign rfl rfl ?_
  refine WL.step ?_
  refine WL.assign rfl rfl ?_
  refine WL.nil ?_
  refine WQ.then_normal ?_
  refine WC.seq ?_
  refine WC.region ?_
  refine WL.step ?_
  refine WL.callC (β := List Nat × Option Addr × Nat) (res := fun y => .tuple #[tv Fm.zeroTree y.2.1 y.2.2, .int .i64 8, .int .i64 4]) (cs := fun y => [own y.1 Fm.zeroTree (tv Fm.zeroTree y.2.1 y.2.2)]) (Cs := []) (O' := []) F.fun14 (fun d h => by cases h; rfl) rfl (List.Perm.refl _) (by simp) (by simp) (fun w hS _ => (Parse_c [97, 32, 60, 61, 62, 32, 98, 32, 60, 61, 62, 32, 99] w).mono (fun e w2 h => ?_)) (fun y32 => ?_)
  · rw [top2] at h
    exact h
  refine WL.step ?_
  refine WL.move rfl rfl ?_
  refine WL.step ?_
  refine WL.extract rfl rfl rfl ?_
  refine WL.step ?_
  refine WL.extract rfl rfl rfl ?_
  refine WL.step ?_
  refine WL.extract rfl rfl rfl ?_
  refine WL.step ?_
  refine WL.alloc F.zero25 rfl (fun b6 => ?_)
  refine WL.step ?_
  refine WL.storeN F.agg25 rfl rfl rfl (by simp [Value.oneCell']) (by repeat (first | exact Upd.here | apply Upd.there)) (by repeat constructor) ?_
  refine WL.step ?_
  refine WL.assign rfl rfl ?_
  refine WL.step ?_
  refine WL.assign rfl rfl ?_
  refine WL.nil ?_
  refine WQ.then_normal ?_
  refine WC.seq ?_
  refine WC.region ?_
  refine WL.step ?_
  refine WL.buildSlice F.sl54 F.ez54 rfl rfl rfl rfl (by repeat (first | exact Built.nil | apply Built.one rfl rfl (by repeat constructor) | apply Built.agg rfl rfl (by repeat constructor))) rfl (fun b37 => ?_)
  refine WL.step ?_
  refine WL.buildSlice F.sl54 F.ez54 rfl rfl rfl rfl (by repeat (first | exact Built.nil | apply Built.one rfl rfl (by repeat constructor) | apply Built.agg rfl rfl (by repeat constructor))) rfl (fun b38 => ?_)
  refine WL.step ?_
  refine WL.buildSlice F.sl38 F.ez38 rfl rfl rfl rfl (by repeat (first | exact Built.nil | apply Built.one rfl rfl (by repeat constructor) | apply Built.agg rfl rfl (by repeat constructor))) rfl (fun b39 => ?_)
  refine WL.step ?_
  refine WL.callC (β := Option Addr × Nat) (res := fun x => .tuple #[.agg #[.bool true, .int .u32 2, .slice x.1 0 x.2], .int .i64 0]) (cs := fun _ => []) (Cs := []) (O' := []) F.fun24 (fun d h => by cases h; rfl) rfl (List.Perm.refl _) (by simp) (by simp) (fun w hS _ => (Solve_c 2 [[1, 2], [-1]] (some ⟨b39, 0, none⟩) 2 _ (.inr ⟨_, _, rfl⟩) w (RdLL.two (b1 := b37) (b2 := b38) (b3 := b39) (c1 := [1, 2]) (c2 := [-1]) hS (by repeat (first | exact List.Mem.head _ | apply List.Mem.tail)) (by repeat (first | exact List.Mem.head _ | apply List.Mem.tail)) (by repeat (first | exact List.Mem.head _ | apply List.Mem.tail))) 20 ⟨true, 2, []⟩ (by decide) (fun n hn _ => ?_)).mono (fun e w2 h => ?_)) (fun x40 => ?_)
  · have : n = 2 := by omega
    subst this
    exact sol1
  · rcases h with h | h
    · exact absurd may1 h.1
    · obtain ⟨_, x, F, vs, h1, h2⟩ := h
      exact ⟨x, h1, h2.sublist (List.nil_sublist _)⟩
  refine WL.step ?_
  refine WL.move rfl rfl ?_
  refine WL.step ?_
  refine WL.extract rfl rfl rfl ?_
  refine WL.step ?_
  refine WL.extract rfl rfl rfl ?_
  refine WL.step ?_
  refine WL.alloc F.zero43 rfl (fun b9 => ?_)
  refine WL.step ?_
  refine WL.storeN F.agg43 rfl rfl rfl (by simp [Value.oneCell']) (by repeat (first | exact Upd.here | apply Upd.there)) (by repeat constructor) ?_
  refine WL.step ?_
  refine WL.assign rfl rfl ?_
  refine WL.nil ?_
  refine WQ.then_normal ?_
  refine WC.seq ?_
  refine WC.region ?_
  refine WL.step ?_
  refine WL.buildSlice F.sl54 F.ez54 rfl rfl rfl rfl (by repeat (first | exact Built.nil | apply Built.one rfl rfl (by repeat constructor) | apply Built.agg rfl rfl (by repeat constructor))) rfl (fun b44 => ?_)
  refine WL.step ?_
  refine WL.buildSlice F.sl54 F.ez54 rfl rfl rfl rfl (by repeat (first | exact Built.nil | apply Built.one rfl rfl (by repeat constructor) | apply Built.agg rfl rfl (by repeat constructor))) rfl (fun b45 => ?_)
  refine WL.step ?_
  refine WL.buildSlice F.sl38 F.ez38 rfl rfl rfl rfl (by repeat (first | exact Built.nil | apply Built.one rfl rfl (by repeat constructor) | apply Built.agg rfl rfl (by repeat constructor))) rfl (fun b46 => ?_)
  refine WL.step ?_
  refine WL.callC (β := Option Addr × Nat) (res := fun x => .tuple #[.agg #[.bool false, .int .u32 0, .slice x.1 1 x.2], .int .i64 0]) (cs := fun _ => []) (Cs := []) (O' := []) F.fun24 (fun d h => by cases h; rfl) rfl (List.Perm.refl _) (by simp) (by simp) (fun w hS _ => (Solve_c 1 [[1], [-1]] (some ⟨b46, 0, none⟩) 2 _ (.inr ⟨_, _, rfl⟩) w (RdLL.two (b1 := b44) (b2 := b45) (b3 := b46) (c1 := [1]) (c2 := [-1]) hS (by repeat (first | exact List.Mem.head _ | apply List.Mem.tail)) (by repeat (first | exact List.Mem.head _ | apply List.Mem.tail)) (by repeat (first | exact List.Mem.head _ | apply List.Mem.tail))) 20 ⟨false, 0, [[]]⟩ (by decide) (fun n hn _ => ?_)).mono (fun e w2 h => ?_)) (fun x47 => ?_)
  · have : n = 1 := by omega
    subst this
    exact sol2
  · rcases h with h | h
    · exact absurd may2 h.1
    · obtain ⟨_, x, F, vs, h1, h2⟩ := h
      exact ⟨x, h1, h2.sublist (List.nil_sublist _)⟩
  refine WL.step ?_
  refine WL.move rfl rfl ?_
  refine WL.step ?_
  refine WL.extract rfl rfl rfl ?_
  refine WL.step ?_
  refine WL.extract rfl rfl rfl ?_
  refine WL.step ?_
  refine WL.alloc F.zero43 rfl (fun b11 => ?_)
  refine WL.step ?_
  refine WL.storeN F.agg43 rfl rfl rfl (by simp [Value.oneCell']) (by repeat (first | exact Upd.here | apply Upd.there)) (by repeat constructor) ?_
  refine WL.step ?_
  refine WL.assign rfl rfl ?_
  refine WL.nil ?_
  refine WQ.then_normal ?_
  refine WC.seq ?_
  refine WC.region ?_
  refine WL.step ?_
  refine WL.move rfl rfl ?_
  refine WL.step ?_
  refine WL.eqI rfl rfl rfl ?_
  refine WL.step ?_
  refine WL.move rfl rfl ?_
  refine WA.splitB (i := 52) rfl (fun g52 => ?_) (fun g52 => ?_)
  · skip
    refine WL.step (WL.guardT rfl rfl rfl ?_)
    refine WL.move rfl rfl ?_
    refine WL.step (WL.guardT rfl rfl rfl ?_)
    refine WL.eqI rfl rfl rfl ?_
    refine WL.step ?_
    refine WL.pickT rfl rfl rfl ?_
    refine WL.step ?_
    refine WL.move rfl rfl ?_
    refine WA.splitB (i := 56) rfl (fun g56 => ?_) (fun g56 => ?_)
    · skip
      refine WL.step (WL.guardT rfl rfl rfl ?_)
      refine WL.fieldAddr0 F.fld25_0 rfl rfl ?_
      refine WL.step (WL.guardT rfl rfl rfl ?_)
      refine WL.loadP F.one5 rfl rfl (by repeat (first | exact List.Mem.head _ | apply List.Mem.tail)) rfl ?_
      refine WL.step (WL.guardT rfl rfl rfl ?_)
      refine WL.eqI rfl rfl rfl ?_
      refine WL.step ?_
      refine WL.pickT rfl rfl rfl ?_
      refine WL.step ?_
      refine WL.move rfl rfl ?_
      refine WA.splitB (i := 61) rfl (fun g61 => ?_) (fun g61 => ?_)
      · skip
        refine WL.step (WL.guardT rfl rfl rfl ?_)
        refine WL.fieldAddr0 F.fld25_2 rfl rfl ?_
        refine WL.step (WL.guardT rfl rfl rfl ?_)
        refine WL.loadP F.one23 rfl rfl (by repeat (first | exact List.Mem.head _ | apply List.Mem.tail)) rfl ?_
        refine WL.step (WL.guardT rfl rfl rfl ?_)
        refine WL.lenSl F.und23 rfl rfl ?_
        refine WL.step (WL.guardT rfl rfl rfl ?_)
        refine WL.eqI rfl rfl rfl ?_
        refine WL.step ?_
        refine WL.pickT rfl rfl rfl ?_
        refine WL.step ?_
        refine WL.move rfl rfl ?_
        refine WA.splitB (i := 67) rfl (fun g67 => ?_) (fun g67 => ?_)
        · skip
          refine WL.step (WL.guardT rfl rfl rfl ?_)
          refine WL.move rfl rfl ?_
          refine WL.step (WL.guardT rfl rfl rfl ?_)
          refine WL.eqI rfl rfl rfl ?_
          refine WL.step ?_
          refine WL.pickT rfl rfl rfl ?_
          refine WL.step ?_
          refine WL.move rfl rfl ?_
          refine WA.splitB (i := 71) rfl (fun g71 => ?_) (fun g71 => ?_)
          · skip
            refine WL.step (WL.guardT rfl rfl rfl ?_)
            refine WL.move rfl rfl ?_
            refine WL.step (WL.guardT rfl rfl rfl ?_)
            refine WL.eqS rfl rfl rfl ?_
            refine WL.step ?_
            refine WL.pickT rfl rfl rfl ?_
            refine WL.step ?_
            refine WL.move rfl rfl ?_
            refine WA.splitB (i := 75) rfl (fun g75 => ?_) (fun g75 => ?_)
            · skip
              refine WL.step (WL.guardT rfl rfl rfl ?_)
              refine WL.move rfl rfl ?_
              refine WL.step (WL.guardT rfl rfl rfl ?_)
              refine WL.eqI rfl rfl rfl ?_
              refine WL.step ?_
              refine WL.pickT rfl rfl rfl ?_
              refine WL.step ?_
              refine WL.move rfl rfl ?_
              refine WA.splitB (i := 79) rfl (fun g79 => ?_) (fun g79 => ?_)
              · skip
                refine WL.step (WL.guardT rfl rfl rfl ?_)
                refine WL.move rfl rfl ?_
                refine WL.step (WL.guardT rfl rfl rfl ?_)
                refine WL.eqI rfl rfl rfl ?_
                refine WL.step ?_
                refine WL.pickT rfl rfl rfl ?_
                refine WL.step ?_
                refine WL.move rfl rfl ?_
                refine WA.splitB (i := 83) rfl (fun g83 => ?_) (fun g83 => ?_)
                · skip
                  refine WL.step (WL.guardT rfl rfl rfl ?_)
                  refine WL.move rfl rfl ?_
                  refine WL.step (WL.guardT rfl rfl rfl ?_)
                  refine WL.eqI rfl rfl rfl ?_
                  refine WL.step ?_
                  refine WL.pickT rfl rfl rfl ?_
                  refine WL.step ?_
                  refine WL.move rfl rfl ?_
                  refine WA.splitB (i := 87) rfl (fun g87 => ?_) (fun g87 => ?_)
                  · skip
                    refine WL.step (WL.guardT rfl rfl rfl ?_)
                    refine WL.fieldAddr0 F.fld43_0 rfl rfl ?_
                    refine WL.step (WL.guardT rfl rfl rfl ?_)
                    refine WL.loadP F.one4 rfl rfl (by repeat (first | exact List.Mem.head _ | apply List.Mem.tail)) rfl ?_
                    refine WL.step ?_
                    refine WL.pickT rfl rfl rfl ?_
                    refine WL.step ?_
                    refine WL.move rfl rfl ?_
                    refine WA.splitB (i := 91) rfl (fun g91 => ?_) (fun g91 => ?_)
                    · skip
                      refine WL.step (WL.guardT rfl rfl rfl ?_)
                      refine WL.fieldAddr0 F.fld43_1 rfl rfl ?_
                      refine WL.step (WL.guardT rfl rfl rfl ?_)
                      refine WL.loadP F.one41 rfl rfl (by repeat (first | exact List.Mem.head _ | apply List.Mem.tail)) rfl ?_
                      refine WL.step (WL.guardT rfl rfl rfl ?_)
                      refine WL.eqI rfl rfl rfl ?_
                      refine WL.step ?_
                      refine WL.pickT rfl rfl rfl ?_
                      refine WL.step ?_
                      refine WL.move rfl rfl ?_
                      refine WA.splitB (i := 96) rfl (fun g96 => ?_) (fun g96 => ?_)
                      · skip
                        refine WL.step (WL.guardT rfl rfl rfl ?_)
                        refine WL.move rfl rfl ?_
                        refine WL.step (WL.guardT rfl rfl rfl ?_)
                        refine WL.eqI rfl rfl rfl ?_
                        refine WL.step ?_
                        refine WL.pickT rfl rfl rfl ?_
                        refine WL.step ?_
                        refine WL.move rfl rfl ?_
                        refine WA.splitB (i := 100) rfl (fun g100 => ?_) (fun g100 => ?_)
                        · skip
                          refine WL.step (WL.guardT rfl rfl rfl ?_)
                          refine WL.fieldAddr0 F.fld43_0 rfl rfl ?_
                          refine WL.step (WL.guardT rfl rfl rfl ?_)
                          refine WL.loadP F.one4 rfl rfl (by repeat (first | exact List.Mem.head _ | apply List.Mem.tail)) rfl ?_
                          refine WL.step (WL.guardT rfl rfl rfl ?_)
                          refine WL.not rfl rfl ?_
                          refine WL.step ?_
                          refine WL.pickT rfl rfl rfl ?_
                          refine WL.step ?_
                          refine WL.move rfl rfl ?_
                          refine WA.splitB (i := 105) rfl (fun g105 => ?_) (fun g105 => ?_)
                          · skip
                            refine WL.step (WL.guardT rfl rfl rfl ?_)
                            refine WL.fieldAddr0 F.fld43_2 rfl rfl ?_
                            refine WL.step (WL.guardT rfl rfl rfl ?_)
                            refine WL.loadP F.one38 rfl rfl (by repeat (first | exact List.Mem.head _ | apply List.Mem.tail)) rfl ?_
                            refine WL.step (WL.guardT rfl rfl rfl ?_)
                            refine WL.lenSl F.und38 rfl rfl ?_
                            refine WL.step (WL.guardT rfl rfl rfl ?_)
                            refine WL.gtI rfl rfl rfl ?_
                            refine WL.step ?_
                            refine WL.pickT rfl rfl rfl ?_
                            refine WL.step ?_
                            refine WL.assign rfl rfl ?_
                            refine WL.nil ?_
                            refine WQ.then_normal ?_
                            refine WC.ret ?_
                            exact WQ.ret (rs := [.tmp 0]) rfl (.tmp rfl .nil) (fun w hS => ⟨rfl, hS.sublist (List.nil_sublist _)⟩)
                          · skip
                            exact absurd g105 (by decide)
                        · skip
                          exact absurd g100 (by decide)
                      · skip
                        exact absurd g96 (by decide)
                    · skip
                      exact absurd g91 (by decide)
                  · skip
                    exact absurd g87 (by decide)
                · skip
                  exact absurd g83 (by decide)
              · skip
                exact absurd g79 (by decide)
            · skip
              exact absurd g75 (by decide)
          · skip
            exact absurd g71 (by decide)
        · skip
          exact absurd g67 (by decide)
      · skip
        exact absurd g61 (by decide)
    · skip
      exact absurd g56 (by decide)
  · skip
    exact absurd g52 (by decide)

end Go.Proofs.Ytbippghgkbapnaa
