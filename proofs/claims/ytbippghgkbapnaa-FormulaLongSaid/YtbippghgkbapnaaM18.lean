import Derived.Test.YtbippghgkbapnaaSpec6
import Derived.Test.YtbippghgkbapnaaM17
import Derived.Test.YtbippghgkbapnaaSpec
import Derived.Test.YtbippghgkbapnaaFacts
set_option linter.unusedSimpArgs false
set_option linter.unusedVariables false
namespace Go.Proofs.Ytbippghgkbapnaa
open Go Go.Eng Go.Proofs
theorem conv53 {n : Nat} (hn : n < 256) (w : World) : (convert 5 3 (.int .u8 (n : Int))).run Try.prog w = .ok (.int .i64 (n : Int)) w := by
  have h := run_convert_int (P := Try.prog) w 5 3 .u8 (n : Int) (by kernel_rfl) (by kernel_rfl)
  rw [show Try.prog.intKind 3 = .i64 by kernel_rfl, wrap_i64 (by omega) (by omega)] at h
  exact h

theorem FormulaLong_c (s : List UInt8) (n : Nat) (hn : n < 256) (w : World) : Pure Try.prog 4 [.string (str s), .int .u8 (n : Int)] w (.bool true) := by
  refine enter Try.func4 rfl Try.ntmps4 rfl (St.init _) ?_
  refine WC.seq ?_
  refine WC.region ?_
  refine WL.step ?_
  refine WL.assign rfl rfl ?_
  refine WL.nil ?_
  refine WQ.then_normal ?_
  refine WC.seq ?_
  refine WC.seq ?_
  refine WC.region ?_
  refine WL.step ?_
  refine WL.move rfl rfl ?_
  refine WL.step ?_
  refine WL.lenS F.und9 rfl rfl ?_
  refine WL.step ?_
  refine WL.eqI rfl rfl rfl ?_
  refine WL.step ?_
  refine WL.move rfl rfl ?_
  refine WA.splitB (i := 19) rfl (fun h19 => ?_) (fun h19 => ?_)
  · skip
    refine WL.step (WL.guardF rfl rfl rfl rfl rfl rfl ?_)
    refine WL.step (WL.guardF rfl rfl rfl rfl rfl rfl ?_)
    refine WL.step (WL.guardF rfl rfl rfl rfl rfl rfl ?_)
    refine WL.step ?_
    refine WL.pickT rfl rfl rfl ?_
    refine WL.nil ?_
    refine WQ.then_normal ?_
    refine WC.condT rfl ?_
    refine WC.seq ?_
    refine WC.region ?_
    refine WL.step ?_
    refine WL.callV F.fun13 rfl rfl (fun w _ => wakes_c w) ?_
    refine WL.step ?_
    refine WL.assign rfl rfl ?_
    refine WL.nil ?_
    refine WQ.then_normal ?_
    refine WC.ret ?_
    refine WQ.then_ret ?_
    exact WQ.ret (rs := [.tmp 4]) rfl (.tmp rfl .nil) (fun w hS => ⟨rfl, hS.sublist (List.nil_sublist _)⟩)
  · skip
    refine WL.step (WL.guardT rfl rfl rfl ?_)
    refine WL.move rfl rfl ?_
    refine WL.step (WL.guardT rfl rfl rfl ?_)
    refine WL.lenS F.und9 rfl rfl ?_
    refine WL.step (WL.guardT rfl rfl rfl ?_)
    refine WL.gtI rfl rfl rfl ?_
    refine WL.step ?_
    refine WL.pickF rfl rfl rfl ?_
    refine WL.nil ?_
    refine WQ.then_normal ?_
    refine WC.cond rfl (fun h23 => ?_) (fun h23 => ?_)
    · skip
      refine WC.seq ?_
      refine WC.region ?_
      refine WL.step ?_
      refine WL.callV F.fun13 rfl rfl (fun w _ => wakes_c w) ?_
      refine WL.step ?_
      refine WL.assign rfl rfl ?_
      refine WL.nil ?_
      refine WQ.then_normal ?_
      refine WC.ret ?_
      refine WQ.then_ret ?_
      exact WQ.ret (rs := [.tmp 4]) rfl (.tmp rfl .nil) (fun w hS => ⟨rfl, hS.sublist (List.nil_sublist _)⟩)
    · skip
      have hs1 : 1 ≤ s.length := by (simp at h19 h23; have := List.length_pos_iff.2 h19; omega)
      have hs2 : s.length ≤ 1000 := by (simp at h23; omega)
      refine WC.skip ?_
      refine WQ.then_normal ?_
      refine WC.seq ?_
      refine WC.region ?_
      refine WL.step ?_
      refine WL.move rfl rfl ?_
      refine WL.step ?_
      refine WL.assign rfl rfl ?_
      refine WL.step ?_
      refine WL.assign rfl rfl ?_
      refine WL.nil ?_
      refine WQ.then_normal ?_
      refine WC.seq ?_
      refine WC.block ?_
      refine WC.loop (α := List UInt8) (fun l => 1 ≤ l.length ∧ l.length ≤ 131072) (fun l => [(1, .int .u8 (n : Int)), (5, .string (str l)), (6, .string (str [32]))]) (fun _ => []) (fun l => 131072 - l.length) (s) ?_ ?_ ?_ ?_
      · exact ⟨hs1, by omega⟩
      · exact ⟨rfl, rfl, rfl, trivial⟩
      · rfl
      rintro l ⟨hl1, hl2⟩
      refine WC.seq ?_
      refine WC.seq ?_
      refine WC.region ?_
      refine WL.step ?_
      refine WL.move rfl rfl ?_
      refine WL.step ?_
      refine WL.lenS F.und9 rfl rfl ?_
      refine WL.step ?_
      refine WL.leI rfl rfl rfl ?_
      refine WL.nil ?_
      refine WQ.then_normal ?_
      refine WC.cond rfl (fun h28 => ?_) (fun h28 => ?_)
      · skip
        have hlt : l.length ≤ 65536 := by (simp at h28; omega)
        refine WC.skip ?_
        refine WQ.then_normal ?_
        refine WC.block ?_
        refine WC.region ?_
        refine WL.step ?_
        refine WL.move rfl rfl ?_
        refine WL.step ?_
        refine WL.move rfl rfl ?_
        refine WL.step ?_
        refine WL.addS rfl rfl rfl (by omega) ?_
        refine WL.step ?_
        refine WL.assign rfl rfl ?_
        refine WL.nil ?_
        refine WQ.block_normal ?_
        refine WQ.back (l ++ l) ?_ ?_ ?_ ?_
        · exact ⟨by simp; omega, by simp; omega⟩
        · simp; omega
        · exact ⟨rfl, rfl, rfl, trivial⟩
        · rfl
      · skip
        have hge : 65536 < l.length := by (simp at h28; omega)
        refine WC.exit ?_
        refine WQ.then_exit ?_
        refine WQ.then_exit ?_
        refine WQ.block_exit ?_
        refine WQ.then_normal ?_
        refine WC.seq ?_
        refine WC.block ?_
        refine WC.loop (α := Nat) (fun m => 1 ≤ m ∧ m ≤ 131072) (fun m => [(1, .int .u8 (n : Int)), (5, .string (str l)), (6, .string (str (List.replicate m 32)))]) (fun _ => []) (fun m => 131072 - m) (1) ?_ ?_ ?_ ?_
        · exact ⟨by omega, by omega⟩
        · exact ⟨rfl, rfl, rfl, trivial⟩
        · rfl
        rintro m ⟨hm1, hm2⟩
        refine WC.seq ?_
        refine WC.seq ?_
        refine WC.region ?_
        refine WL.step ?_
        refine WL.move rfl rfl ?_
        refine WL.step ?_
        refine WL.lenS F.und9 rfl rfl ?_
        refine WL.step ?_
        refine WL.leI rfl rfl rfl ?_
        refine WL.nil ?_
        refine WQ.then_normal ?_
        refine WC.cond rfl (fun h34 => ?_) (fun h34 => ?_)
        · skip
          have hmt : m ≤ 65536 := by (simp at h34; omega)
          refine WC.skip ?_
          refine WQ.then_normal ?_
          refine WC.block ?_
          refine WC.region ?_
          refine WL.step ?_
          refine WL.move rfl rfl ?_
          refine WL.step ?_
          refine WL.move rfl rfl ?_
          refine WL.step ?_
          refine WL.addS rfl rfl rfl (by simp only [List.length_replicate]; omega) ?_
          refine WL.step ?_
          refine WL.assign rfl rfl ?_
          refine WL.nil ?_
          refine WQ.block_normal ?_
          rw [List.replicate_append_replicate]
          refine WQ.back (m + m) ?_ ?_ ?_ ?_
          · exact ⟨by omega, by omega⟩
          · omega
          · exact ⟨rfl, rfl, rfl, trivial⟩
          · rfl
        · skip
          have hmg : 65536 < m := by (simp at h34; omega)
          refine WC.exit ?_
          refine WQ.then_exit ?_
          refine WQ.then_exit ?_
          refine WQ.block_exit ?_
          refine WQ.then_normal ?_
          refine WC.seq ?_
          refine WC.region ?_
          refine WL.step ?_
          refine WL.move rfl rfl ?_
          refine WL.step ?_
          refine WL.y (F := fun _ => True) (Yl.sliceTo (n := 65537) F.und9 rfl rfl (by omega)) rfl (fun _ _ => trivial) ?_
          refine WL.step ?_
          refine WL.callC (β := List Nat × Option Addr × Nat) (res := fun y => .tuple #[tv Fm.zeroTree y.2.1 y.2.2, .int .i64 (65536 : Int), .int .i64 5]) (cs := fun y => [own y.1 Fm.zeroTree (tv Fm.zeroTree y.2.1 y.2.2)]) (Cs := []) (O' := []) F.fun14 (fun d h => by cases h; rfl) rfl (List.Perm.refl _) (by simp) (by simp) (fun w hS _ => (Parse_c (l.take 65537) w).mono (fun e w2 h => ?_)) (fun y41 => ?_)
          · rw [Fm.top_long (by simp; omega)] at h
            exact h
          refine WL.step ?_
          refine WL.move rfl rfl ?_
          refine WL.step ?_
          refine WL.extract rfl rfl rfl ?_
          refine WL.step ?_
          refine WL.extract rfl rfl rfl ?_
          refine WL.step ?_
          refine WL.extract rfl rfl rfl ?_
          refine WL.step ?_
          refine WL.alloc F.zero25 rfl (fun b7 => ?_)
          refine WL.step ?_
          refine WL.storeN F.agg25 rfl rfl rfl (by simp [Value.oneCell']) (by repeat (first | exact Upd.here | apply Upd.there)) (by repeat constructor) ?_
          refine WL.step ?_
          refine WL.assign rfl rfl ?_
          refine WL.step ?_
          refine WL.assign rfl rfl ?_
          refine WL.nil ?_
          refine WQ.then_normal ?_
          refine WC.seq ?_
          refine WC.region ?_
          refine WL.step ?_
          refine WL.move rfl rfl ?_
          refine WL.step ?_
          refine WL.y (F := fun _ => True) (Yl.sliceTo (n := 65535) F.und9 rfl rfl (by simp; omega)) rfl (fun _ _ => trivial) ?_
          rw [List.take_replicate, show min 65535 m = 65535 by omega]
          refine WL.step ?_
          refine WL.addS (n := [48]) rfl rfl rfl (by simp only [List.length_replicate, List.length_cons, List.length_nil]; omega) ?_
          refine WL.step ?_
          refine WL.callC (β := List Nat × Option Addr × Nat) (res := fun y => .tuple #[tv (Tree.mk 1 [] []) y.2.1 y.2.2, .int .i64 (0 : Int), .int .i64 0]) (cs := fun y => [own y.1 (Tree.mk 1 [] []) (tv (Tree.mk 1 [] []) y.2.1 y.2.2)]) (Cs := []) (O' := []) F.fun14 (fun d h => by cases h; rfl) rfl (List.Perm.refl _) (by simp) (by simp) (fun w hS _ => (Parse_c (List.replicate 65535 32 ++ [48]) w).mono (fun e w2 h => ?_)) (fun y49 => ?_)
          · rw [Fm.top_blank 65535 (by omega)] at h
            exact h
          refine WL.step ?_
          refine WL.move rfl rfl ?_
          refine WL.step ?_
          refine WL.extract rfl rfl rfl ?_
          refine WL.step ?_
          refine WL.extract rfl rfl rfl ?_
          refine WL.step ?_
          refine WL.extract rfl rfl rfl ?_
          refine WL.step ?_
          refine WL.alloc F.zero25 rfl (fun b10 => ?_)
          refine WL.step ?_
          refine WL.storeN F.agg25 rfl rfl rfl (by simp [Value.oneCell']) (by repeat (first | exact Upd.here | apply Upd.there)) (by repeat constructor) ?_
          refine WL.step ?_
          refine WL.assign rfl rfl ?_
          refine WL.step ?_
          refine WL.assign rfl rfl ?_
          refine WL.nil ?_
          refine WQ.then_normal ?_
          refine WC.seq ?_
          refine WC.region ?_
          refine WL.step ?_
          refine WL.move rfl rfl ?_
          refine WL.step ?_
          refine WL.move rfl rfl ?_
          refine WL.step ?_
          refine WL.convert rfl rfl (v := .int .i64 (n : Int)) (fun w hS => conv53 hn w) ?_
          refine WL.step ?_
          refine WL.y (F := fun _ => True) (Yl.sliceTo (n := n) F.und9 rfl rfl (by omega)) rfl (fun _ _ => trivial) ?_
          refine WL.step ?_
          refine WL.addS (n := [36]) rfl rfl rfl (by simp; omega) ?_
          obtain ⟨q, hq, htop⟩ := Fm.top_dollar (x := l.take n) (by simp; omega)
          have hqn : q ≤ n := by (simp at hq; omega)
          refine WL.step ?_
          refine WL.callC (β := List Nat × Option Addr × Nat) (res := fun y => .tuple #[tv Fm.zeroTree y.2.1 y.2.2, .int .i64 (q : Int), .int .i64 4]) (cs := fun y => [own y.1 Fm.zeroTree (tv Fm.zeroTree y.2.1 y.2.2)]) (Cs := []) (O' := []) F.fun14 (fun d h => by cases h; rfl) rfl (List.Perm.refl _) (by simp) (by simp) (fun w hS _ => (Parse_c (l.take n ++ [36]) w).mono (fun e w2 h => ?_)) (fun y59 => ?_)
          · rw [htop] at h
            exact h
          refine WL.step ?_
          refine WL.move rfl rfl ?_
          refine WL.step ?_
          refine WL.extract rfl rfl rfl ?_
          refine WL.step ?_
          refine WL.extract rfl rfl rfl ?_
          refine WL.step ?_
          refine WL.extract rfl rfl rfl ?_
          refine WL.step ?_
          refine WL.alloc F.zero25 rfl (fun b13 => ?_)
          refine WL.step ?_
          refine WL.storeN F.agg25 rfl rfl rfl (by simp [Value.oneCell']) (by repeat (first | exact Upd.here | apply Upd.there)) (by repeat constructor) ?_
          refine WL.step ?_
          refine WL.assign rfl rfl ?_
          refine WL.step ?_
          refine WL.assign rfl rfl ?_
          refine WL.nil ?_
          refine WQ.then_normal ?_
          refine WC.seq ?_
          refine WC.region ?_
          refine WL.step ?_
          refine WL.move rfl rfl ?_
          refine WL.step ?_
          refine WL.eqI rfl rfl rfl ?_
          refine WL.step ?_
          refine WL.move rfl rfl ?_
          refine WA.splitB (i := 65) rfl (fun g65 => ?_) (fun g65 => ?_)
          · skip
            refine WL.step (WL.guardT rfl rfl rfl ?_)
            refine WL.move rfl rfl ?_
            refine WL.step (WL.guardT rfl rfl rfl ?_)
            refine WL.eqI rfl rfl rfl ?_
            refine WL.step ?_
            refine WL.pickT rfl rfl rfl ?_
            refine WL.step ?_
            refine WL.move rfl rfl ?_
            refine WA.splitB (i := 69) rfl (fun g69 => ?_) (fun g69 => ?_)
            · skip
              refine WL.step (WL.guardT rfl rfl rfl ?_)
              refine WL.move rfl rfl ?_
              refine WL.step (WL.guardT rfl rfl rfl ?_)
              refine WL.eqI rfl rfl rfl ?_
              refine WL.step ?_
              refine WL.pickT rfl rfl rfl ?_
              refine WL.step ?_
              refine WL.move rfl rfl ?_
              refine WA.splitB (i := 73) rfl (fun g73 => ?_) (fun g73 => ?_)
              · skip
                refine WL.step (WL.guardT rfl rfl rfl ?_)
                refine WL.fieldAddr0 F.fld25_0 rfl rfl ?_
                refine WL.step (WL.guardT rfl rfl rfl ?_)
                refine WL.loadP F.one5 rfl rfl (by repeat (first | exact List.Mem.head _ | apply List.Mem.tail)) rfl ?_
                refine WL.step (WL.guardT rfl rfl rfl ?_)
                refine WL.eqI rfl rfl rfl ?_
                refine WL.step ?_
                refine WL.pickT rfl rfl rfl ?_
                refine WL.step ?_
                refine WL.move rfl rfl ?_
                refine WA.splitB (i := 78) rfl (fun g78 => ?_) (fun g78 => ?_)
                · skip
                  refine WL.step (WL.guardT rfl rfl rfl ?_)
                  refine WL.move rfl rfl ?_
                  refine WL.step (WL.guardT rfl rfl rfl ?_)
                  refine WL.eqI rfl rfl rfl ?_
                  refine WL.step ?_
                  refine WL.pickT rfl rfl rfl ?_
                  refine WL.step ?_
                  refine WL.move rfl rfl ?_
                  refine WA.splitB (i := 82) rfl (fun g82 => ?_) (fun g82 => ?_)
                  · skip
                    refine WL.step (WL.guardT rfl rfl rfl ?_)
                    refine WL.move rfl rfl ?_
                    refine WL.step (WL.guardT rfl rfl rfl ?_)
                    refine WL.move rfl rfl ?_
                    refine WL.step (WL.guardT rfl rfl rfl ?_)
                    refine WL.convert rfl rfl (v := .int .i64 (n : Int)) (fun w hS => conv53 hn w) ?_
                    refine WL.step (WL.guardT rfl rfl rfl ?_)
                    refine WL.leI rfl rfl rfl ?_
                    refine WL.step ?_
                    refine WL.pickT rfl rfl rfl ?_
                    refine WL.step ?_
                    refine WL.move rfl rfl ?_
                    refine WA.splitB (i := 88) rfl (fun g88 => ?_) (fun g88 => ?_)
                    · skip
                      refine WL.step (WL.guardT rfl rfl rfl ?_)
                      refine WL.callV F.fun13 rfl rfl (fun w _ => wakes_c w) ?_
                      refine WL.step ?_
                      refine WL.pickT rfl rfl rfl ?_
                      refine WL.step ?_
                      refine WL.assign rfl rfl ?_
                      refine WL.nil ?_
                      refine WQ.then_normal ?_
                      refine WC.ret ?_
                      exact WQ.ret (rs := [.tmp 4]) rfl (.tmp rfl .nil) (fun w hS => ⟨rfl, hS.sublist (List.nil_sublist _)⟩)
                    · skip
                      exact absurd g88 (by first | decide | (simp; omega))
                  · skip
                    exact absurd g82 (by first | decide | (simp; omega))
                · skip
                  exact absurd g78 (by first | decide | (simp; omega))
              · skip
                exact absurd g73 (by first | decide | (simp; omega))
            · skip
              exact absurd g69 (by first | decide | (simp; omega))
          · skip
            exact absurd g65 (by first | decide | (simp; omega))

end Go.Proofs.Ytbippghgkbapnaa
