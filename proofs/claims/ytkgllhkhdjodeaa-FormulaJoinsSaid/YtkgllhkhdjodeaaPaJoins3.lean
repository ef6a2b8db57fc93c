import Derived.Test.YtkgllhkhdjodeaaPaJoins2
import Derived.Scope
import Derived.ChangeStays
import Derived.ChangeOld
import Derived.Deep.Strs
import Derived.Deep.Matrix
set_option linter.unusedSimpArgs false
set_option linter.unusedVariables false
namespace Go.Proofs.Ytkgllhkhdjodeaa
open Go Go.Eng Go.Proofs
theorem _root_.Go.Eng.St.call3 {w0 w w' : World} {O : List Nat} {C cs : List Chunk} {b c d : Nat} {vb vc vd : List Value} {e1 e2 e3 : TypeId} (h : St w0 O (pt b vb e1 :: pt c vc e2 :: pt d vd e3 :: C) w) (hc : St w [b, c, d] cs w') : St w0 O (cs ++ C) w' := by
  have d1 := List.pairwise_cons.1 h.disj
  have d2 := List.pairwise_cons.1 d1.2
  have d3 := List.pairwise_cons.1 d2.2
  refine h.drop.drop.drop.call hc (fun k hk _ => ?_)
  simp only [List.mem_cons, List.not_mem_nil, or_false] at hk
  rcases hk with rfl | rfl | rfl
  · exact ⟨fun x hx => d1.1 x (by simp [hx]) k rfl, fun hlt => (h.bnd (pt k vb e1) (by simp) k rfl).2 hlt⟩
  · exact ⟨fun x hx => d2.1 x (by simp [hx]) k rfl, fun hlt => (h.bnd (pt k vc e2) (by simp) k rfl).2 hlt⟩
  · exact ⟨fun x hx => d3.1 x hx k rfl, fun hlt => (h.bnd (pt k vd e3) (by simp) k rfl).2 hlt⟩
def ParsePost (w : World) (r : Tree × Nat × Int) (e : Ending) (w' : World) : Prop :=
  ∃ y : List Nat × Option Addr × Nat, e = .returned (.tuple #[tv r.1 y.2.1 y.2.2, .int .i64 (r.2.1 : Int), .int .i64 r.2.2]) ∧ St w [] [own y.1 r.1 (tv r.1 y.2.1 y.2.2)] w'

theorem Parse_c (text : List UInt8) (w : World) : Calls Try.prog 37 [Value.string (str text)].toArray w (ParsePost w (Fm.top text)) := by
  refine enterD Try.func37 rfl Try.ntmps37 rfl (St.init _) ?_
  refine WC.seq ?_
  refine WC.region ?_
  refine WL.step ?_
  refine WL.alloc F.zero74 rfl (fun b2 => ?_)
  refine WL.step ?_
  refine WL.alloc F.zero3 rfl (fun b3 => ?_)
  refine WL.step ?_
  refine WL.alloc F.zero29 rfl (fun b4 => ?_)
  refine WL.nil ?_
  refine WQ.then_normal ?_
  refine WC.seq ?_
  refine WC.seq ?_
  refine WC.region ?_
  refine WL.step ?_
  refine WL.move rfl rfl ?_
  refine WL.step ?_
  refine WL.lenS F.und9 rfl rfl ?_
  refine WL.step ?_
  refine WL.gtI rfl rfl rfl ?_
  refine WL.nil ?_
  refine WQ.then_normal ?_
  refine WC.cond rfl (fun h8 => ?_) (fun h8 => ?_)
  · skip
    have htop : Fm.top text = (Fm.zeroTree, 65536, 5) := by (have h9 : 65536 < text.length := by simp at h8; omega); simp only [Fm.top, h9, if_true]
    refine WC.seq ?_
    refine WC.region ?_
    refine WL.step ?_
    refine WL.build F.stT74 rfl (by repeat (first | exact Built.nil | apply Built.one rfl rfl (by repeat constructor) | apply Built.agg rfl rfl (by repeat constructor))) rfl ?_
    refine WL.step ?_
    refine WL.storeN F.agg74 rfl rfl rfl (by simp [Value.oneCell']) (by repeat (first | exact Upd.here | apply Upd.there)) (by repeat constructor) ?_
    refine WL.step ?_
    refine WL.store1 F.one3 rfl rfl rfl (by repeat (first | exact Upd.here | apply Upd.there)) (by repeat constructor) ?_
    refine WL.step ?_
    refine WL.store1 F.one29 rfl rfl rfl (by repeat (first | exact Upd.here | apply Upd.there)) (by repeat constructor) ?_
    refine WL.nil ?_
    refine WQ.then_normal ?_
    refine WC.ret ?_
    refine WQ.then_ret ?_
    refine WQ.ret0 rfl (rs := [.cell 2 74, .cell 3 3, .cell 4 29]) (.cellN F.agg74 rfl (by repeat (first | exact List.Mem.head _ | apply List.Mem.tail)) rfl (.cell1 F.one3 rfl (by repeat (first | exact List.Mem.head _ | apply List.Mem.tail)) rfl (.cell1 F.one29 rfl (by repeat (first | exact List.Mem.head _ | apply List.Mem.tail)) rfl .nil))) (fun w hS => ?_)
    rw [htop]
    exact ⟨([], none, 0), rfl, (St.node0 0 [] hS).one1⟩
  · skip
    have hl8 : ¬ 65536 < text.length := by simp at h8; omega
    have hmax : text.length ≤ 140737488355328 := by omega
    have hmax2 : text.length ≤ 1099511627776 := by omega
    refine WC.skip ?_
    refine WQ.then_normal ?_
    refine WC.seq ?_
    refine WC.region ?_
    refine WL.step ?_
    refine WL.makeFunc rfl rfl rfl ?_
    refine WL.step ?_
    refine WL.defer (us := []) (cap := [pp b2, pp b3, pp b4]) rfl ?_
    refine WL.nil ?_
    refine WQ.then_normal ?_
    refine WC.seq ?_
    refine WC.region ?_
    refine WL.step ?_
    refine WL.move rfl rfl ?_
    refine WL.step ?_
    refine WL.build F.stT109 rfl (by repeat (first | exact Built.nil | apply Built.one rfl rfl (by repeat constructor) | apply Built.agg rfl rfl (by repeat constructor))) rfl ?_
    refine WL.step ?_
    refine WL.boxN rfl rfl (fun b13 => ?_)
    refine WL.step ?_
    refine WL.assign rfl rfl ?_
    refine WL.nil ?_
    refine WQ.then_normal ?_
    refine WC.seq ?_
    rcases hn : Fm.next text 0 [] with ⟨a, x⟩ | a
    · skip
      have hN := fun w hp => next_c b13 text [] 0 (by simp) hmax w hp
      rw [hn] at hN
      have hle := (Fm.next_le (by simp) hn).2
      obtain ⟨r, hr⟩ := Fm.parse_total (Fm.fuel text) .choice a x hle (by simp only [Fm.rank, Fm.fuel]; omega)
      refine WC.region ?_
      refine WL.step ?_
      refine WL.move rfl rfl ?_
      refine WL.step ?_
      refine WL.call1S (bs := pcell text 0 []) (bs' := pcell text a x) F.fun59 rfl rfl (by repeat (first | exact Rem.here | apply Rem.there)) (fun w hS => hN w (hS.heap (by repeat (first | exact List.Mem.head _ | apply List.Mem.tail)))) ?_
      refine WL.nil ?_
      refine WQ.then_normal ?_
      refine WC.seq ?_
      rcases r with ⟨t1, b1, x1⟩ | b1
      · skip
        have hC := fun w hp => (pc_all b13 text hmax2 _).ch a x _ w hle hr hp
        refine WC.region ?_
        refine WL.step ?_
        refine WL.move rfl rfl ?_
        refine WL.step ?_
        refine WL.call1A (res := fun y : List Nat × Option Addr × Nat => tv t1 y.2.1 y.2.2) (c1 := fun y : List Nat × Option Addr × Nat => own y.1 t1 (tv t1 y.2.1 y.2.2)) (c2 := fun _ => pt b13 (pcell text b1 x1) 109) (bs := pcell text a x) F.fun60 rfl rfl (by repeat (first | exact Rem.here | apply Rem.there)) (fun w hS => hC w (hS.heap (by repeat (first | exact List.Mem.head _ | apply List.Mem.tail)))) (fun y17 => ?_)
        refine WL.step ?_
        refine WL.storeN F.agg74 rfl rfl rfl (by simp [Value.oneCell']) (by repeat (first | exact Upd.here | apply Upd.there)) (by repeat constructor) ?_
        refine WL.nil ?_
        refine WQ.then_normal ?_
        refine WC.seq ?_
        refine WC.seq ?_
        refine WC.region ?_
        refine WL.step ?_
        refine WL.move rfl rfl ?_
        refine WL.step ?_
        refine WL.nilCheck rfl rfl ?_
        refine WL.step ?_
        refine WL.fieldAddr0 F.fld109_2 rfl rfl ?_
        refine WL.step ?_
        refine WL.loadP F.one9 rfl rfl (by repeat (first | exact List.Mem.head _ | apply List.Mem.tail)) rfl ?_
        refine WL.step ?_
        refine WL.neS rfl rfl rfl ?_
        refine WL.nil ?_
        refine WQ.then_normal ?_
        refine WC.cond rfl (fun h22 => ?_) (fun h22 => ?_)
        · skip
          have hx : x1 ≠ [] := by simpa using h22
          have htop : Fm.top text = (Fm.zeroTree, b1, 4) := by simp only [Fm.top, hl8, if_false, hn, hr, hx, ne_eq, not_false_eq_true, if_true]
          refine WC.region ?_
          refine WL.step ?_
          refine WL.move rfl rfl ?_
          refine WL.step ?_
          refine WL.nilCheck rfl rfl ?_
          refine WL.step ?_
          refine WL.fieldAddr0 F.fld109_1 rfl rfl ?_
          refine WL.step ?_
          refine WL.loadP F.one3 rfl rfl (by repeat (first | exact List.Mem.head _ | apply List.Mem.tail)) rfl ?_
          refine WL.step ?_
          refine WL.build F.stT105 rfl (by repeat (first | exact Built.nil | apply Built.one rfl rfl (by repeat constructor) | apply Built.agg rfl rfl (by repeat constructor))) rfl ?_
          refine WL.step ?_
          refine WL.makeIface F.conc105 rfl rfl ?_
          refine WL.step ?_
          refine WL.panic rfl ?_
          refine WQ.then_panic ?_
          refine WQ.panicD (g := 58) (us := []) (cap := [pp b2, pp b3, pp b4]) (C2 := [pt b2 [Value.int .u8 0, .string (str []), .slice none 0 0] 74, pt b3 [.int .i64 (b1 : Int)] 3, pt b4 [.int .i64 4] 29]) (v := .tuple #[]) (ch2 := [{ v := .iface 105 (.agg #[.int .i64 (b1 : Int)]), recovered := true }]) F.fun58 (fun w hS => ?_) rfl (rs := [.cell 2 74, .cell 3 3, .cell 4 29]) rfl (.cellN F.agg74 rfl (by repeat (first | exact List.Mem.head _ | apply List.Mem.tail)) rfl (.cell1 F.one3 rfl (by repeat (first | exact List.Mem.head _ | apply List.Mem.tail)) rfl (.cell1 F.one29 rfl (by repeat (first | exact List.Mem.head _ | apply List.Mem.tail)) rfl .nil))) (fun w hS => ?_)
          · refine (catch_trouble b2 b3 b4 b1 _ _ _ (St.ne2 (St.pick (St.pick hS (c := pt b3 [.int .i64 0] 3) (by repeat (first | exact Rem.here | apply Rem.there))) (c := pt b2 [Value.int .u8 t1.op, .string (str t1.name), .slice y17.2.1 t1.kids.length y17.2.2] 74) (by repeat (first | exact Rem.here | apply Rem.there)))) (St.ne2 (St.pick (St.pick hS (c := pt b4 [.int .i64 0] 29) (by repeat (first | exact Rem.here | apply Rem.there))) (c := pt b2 [Value.int .u8 t1.op, .string (str t1.name), .slice y17.2.1 t1.kids.length y17.2.2] 74) (by repeat (first | exact Rem.here | apply Rem.there)))) (St.ne2 (St.pick (St.pick hS (c := pt b4 [.int .i64 0] 29) (by repeat (first | exact Rem.here | apply Rem.there))) (c := pt b3 [.int .i64 0] 3) (by repeat (first | exact Rem.here | apply Rem.there)))) rfl rfl rfl w (hS.heap (cs := [Value.int .u8 t1.op, .string (str t1.name), .slice y17.2.1 t1.kids.length y17.2.2]) (by repeat (first | exact List.Mem.head _ | apply List.Mem.tail))) (hS.heap (cs := [.int .i64 0]) (by repeat (first | exact List.Mem.head _ | apply List.Mem.tail))) (hS.heap (cs := [.int .i64 0]) (by repeat (first | exact List.Mem.head _ | apply List.Mem.tail)))).mono (fun e u2 w2 h => ⟨h.1, h.2.1, ?_⟩)
            exact (St.call3 (St.pick (St.pick (St.pick hS (c := pt b4 [.int .i64 0] 29) (by repeat (first | exact Rem.here | apply Rem.there))) (c := pt b3 [.int .i64 0] 3) (by repeat (first | exact Rem.here | apply Rem.there))) (c := pt b2 [Value.int .u8 t1.op, .string (str t1.name), .slice y17.2.1 t1.kids.length y17.2.2] 74) (by repeat (first | exact Rem.here | apply Rem.there))) h.2.2).sublist (List.sublist_append_left _ _)
          · rw [htop]
            exact ⟨([], none, 0), rfl, (St.node0 0 [] hS).one1⟩
        · skip
          have hx : x1 = [] := by simpa using h22
          refine WC.skip ?_
          refine WQ.then_normal ?_
          refine WC.seq ?_
          refine WC.seq ?_
          refine WC.region ?_
          refine WL.step ?_
          refine WL.loadW F.agg74 rfl rfl (by repeat (first | exact List.Mem.head _ | apply List.Mem.tail)) rfl ?_
          refine WL.step ?_
          refine WL.callV F.fun61 rfl rfl (fun w hS => Valid_c t1 y17.1 _ _ w (hS.ok (own y17.1 t1 (tv t1 y17.2.1 y17.2.2)) (by repeat (first | exact List.Mem.head _ | apply List.Mem.tail))).2) ?_
          refine WL.step ?_
          refine WL.not rfl rfl ?_
          refine WL.nil ?_
          refine WQ.then_normal ?_
          refine WC.cond rfl (fun h31 => ?_) (fun h31 => ?_)
          · skip
            have hv : Fm.validB t1 = false := by simpa using h31
            have htop : Fm.top text = (Fm.zeroTree, text.length, 5) := by simp only [Fm.top, hl8, if_false, hn, hr, hx, ne_eq, not_true_eq_false, hv, Bool.false_eq_true]
            refine WC.seq ?_
            refine WC.region ?_
            refine WL.step ?_
            refine WL.build F.stT74 rfl (by repeat (first | exact Built.nil | apply Built.one rfl rfl (by repeat constructor) | apply Built.agg rfl rfl (by repeat constructor))) rfl ?_
            refine WL.step ?_
            refine WL.move rfl rfl ?_
            refine WL.step ?_
            refine WL.lenS F.und9 rfl rfl ?_
            refine WL.step ?_
            refine WL.storeN F.agg74 rfl rfl rfl (by simp [Value.oneCell']) (by repeat (first | exact Upd.here | apply Upd.there)) (by repeat constructor) ?_
            refine WL.step ?_
            refine WL.store1 F.one3 rfl rfl rfl (by repeat (first | exact Upd.here | apply Upd.there)) (by repeat constructor) ?_
            refine WL.step ?_
            refine WL.store1 F.one29 rfl rfl rfl (by repeat (first | exact Upd.here | apply Upd.there)) (by repeat constructor) ?_
            refine WL.nil ?_
            refine WQ.then_normal ?_
            refine WC.ret ?_
            refine WQ.then_ret ?_
            refine WQ.retD (g := 58) (us := []) (cap := [pp b2, pp b3, pp b4]) F.fun58 (fun w hS => (catch_idle b2 b3 b4 w).mono (fun e u2 w2 h => ⟨h.1, h.2.1, hS.call0 h.2.2⟩)) rfl (rs := [.cell 2 74, .cell 3 3, .cell 4 29]) (.cellN F.agg74 rfl (by repeat (first | exact List.Mem.head _ | apply List.Mem.tail)) rfl (.cell1 F.one3 rfl (by repeat (first | exact List.Mem.head _ | apply List.Mem.tail)) rfl (.cell1 F.one29 rfl (by repeat (first | exact List.Mem.head _ | apply List.Mem.tail)) rfl .nil))) (fun w hS => ?_)
            rw [htop]
            exact ⟨([], none, 0), rfl, (St.node0 0 [] hS).one1⟩
          · skip
            have hv : Fm.validB t1 = true := by simpa using h31
            have htop : Fm.top text = (t1, 0, 0) := by simp only [Fm.top, hl8, if_false, hn, hr, hx, ne_eq, not_true_eq_false, hv, if_true]
            refine WC.skip ?_
            refine WQ.then_normal ?_
            refine WC.seq ?_
            refine WC.region ?_
            refine WL.step ?_
            refine WL.loadW F.agg74 rfl rfl (by repeat (first | exact List.Mem.head _ | apply List.Mem.tail)) rfl ?_
            refine WL.step ?_
            refine WL.storeN F.agg74 rfl rfl rfl (by simp [Value.oneCell']) (by repeat (first | exact Upd.here | apply Upd.there)) (by repeat constructor) ?_
            refine WL.step ?_
            refine WL.store1 F.one3 rfl rfl rfl (by repeat (first | exact Upd.here | apply Upd.there)) (by repeat constructor) ?_
            refine WL.step ?_
            refine WL.store1 F.one29 rfl rfl rfl (by repeat (first | exact Upd.here | apply Upd.there)) (by repeat constructor) ?_
            refine WL.nil ?_
            refine WQ.then_normal ?_
            refine WC.ret ?_
            refine WQ.retD (g := 58) (us := []) (cap := [pp b2, pp b3, pp b4]) F.fun58 (fun w hS => (catch_idle b2 b3 b4 w).mono (fun e u2 w2 h => ⟨h.1, h.2.1, hS.call0 h.2.2⟩)) rfl (rs := [.cell 2 74, .cell 3 3, .cell 4 29]) (.cellN F.agg74 rfl (by repeat (first | exact List.Mem.head _ | apply List.Mem.tail)) rfl (.cell1 F.one3 rfl (by repeat (first | exact List.Mem.head _ | apply List.Mem.tail)) rfl (.cell1 F.one29 rfl (by repeat (first | exact List.Mem.head _ | apply List.Mem.tail)) rfl .nil))) (fun w hS => ?_)
            rw [htop]
            exact ⟨y17, rfl, (St.pick hS (c := own y17.1 t1 (tv t1 y17.2.1 y17.2.2)) (by repeat (first | exact Rem.here | apply Rem.there))).one1⟩
      · skip
        have hC := fun w hp => (pc_all b13 text hmax2 _).ch a x _ w hle hr hp
        have htop : Fm.top text = (Fm.zeroTree, b1, 4) := by simp only [Fm.top, hl8, if_false, hn, hr]
        refine WC.region ?_
        refine WL.step ?_
        refine WL.move rfl rfl ?_
        refine WL.step ?_
        refine WL.call1P (bs := pcell text a x) F.fun60 (fun d h => by cases h; rfl) rfl (by repeat (first | exact Rem.here | apply Rem.there)) (fun w hS => hC w (hS.heap (by repeat (first | exact List.Mem.head _ | apply List.Mem.tail)))) (fun cs => ?_)
        refine WQ.then_panic ?_
        refine WQ.panicD (g := 58) (us := []) (cap := [pp b2, pp b3, pp b4]) (C2 := [pt b2 [Value.int .u8 0, .string (str []), .slice none 0 0] 74, pt b3 [.int .i64 (b1 : Int)] 3, pt b4 [.int .i64 4] 29]) (v := .tuple #[]) (ch2 := [{ v := .iface 105 (.agg #[.int .i64 (b1 : Int)]), recovered := true }]) F.fun58 (fun w hS => ?_) rfl (rs := [.cell 2 74, .cell 3 3, .cell 4 29]) rfl (.cellN F.agg74 rfl (by repeat (first | exact List.Mem.head _ | apply List.Mem.tail)) rfl (.cell1 F.one3 rfl (by repeat (first | exact List.Mem.head _ | apply List.Mem.tail)) rfl (.cell1 F.one29 rfl (by repeat (first | exact List.Mem.head _ | apply List.Mem.tail)) rfl .nil))) (fun w hS => ?_)
        · refine (catch_trouble b2 b3 b4 b1 _ _ _ (St.ne2 (St.pick (St.pick hS (c := pt b3 [.int .i64 0] 3) (by repeat (first | exact Rem.here | apply Rem.there))) (c := pt b2 [Value.int .u8 0, .string (str []), .slice none 0 0] 74) (by repeat (first | exact Rem.here | apply Rem.there)))) (St.ne2 (St.pick (St.pick hS (c := pt b4 [.int .i64 0] 29) (by repeat (first | exact Rem.here | apply Rem.there))) (c := pt b2 [Value.int .u8 0, .string (str []), .slice none 0 0] 74) (by repeat (first | exact Rem.here | apply Rem.there)))) (St.ne2 (St.pick (St.pick hS (c := pt b4 [.int .i64 0] 29) (by repeat (first | exact Rem.here | apply Rem.there))) (c := pt b3 [.int .i64 0] 3) (by repeat (first | exact Rem.here | apply Rem.there)))) rfl rfl rfl w (hS.heap (cs := [Value.int .u8 0, .string (str []), .slice none 0 0]) (by repeat (first | exact List.Mem.head _ | apply List.Mem.tail))) (hS.heap (cs := [.int .i64 0]) (by repeat (first | exact List.Mem.head _ | apply List.Mem.tail))) (hS.heap (cs := [.int .i64 0]) (by repeat (first | exact List.Mem.head _ | apply List.Mem.tail)))).mono (fun e u2 w2 h => ⟨h.1, h.2.1, ?_⟩)
          exact (St.call3 (St.pick (St.pick (St.pick hS (c := pt b4 [.int .i64 0] 29) (by repeat (first | exact Rem.here | apply Rem.there))) (c := pt b3 [.int .i64 0] 3) (by repeat (first | exact Rem.here | apply Rem.there))) (c := pt b2 [Value.int .u8 0, .string (str []), .slice none 0 0] 74) (by repeat (first | exact Rem.here | apply Rem.there))) h.2.2).sublist (List.sublist_append_left _ _)
        · rw [htop]
          exact ⟨([], none, 0), rfl, (St.node0 0 [] hS).one1⟩
    · skip
      have hN := fun w hp => next_c b13 text [] 0 (by simp) hmax w hp
      rw [hn] at hN
      have htop : Fm.top text = (Fm.zeroTree, a, 4) := by simp only [Fm.top, hl8, if_false, hn]
      refine WC.region ?_
      refine WL.step ?_
      refine WL.move rfl rfl ?_
      refine WL.step ?_
      refine WL.call1P (bs := pcell text 0 []) F.fun59 (fun d h => by cases h; rfl) rfl (by repeat (first | exact Rem.here | apply Rem.there)) (fun w hS => hN w (hS.heap (by repeat (first | exact List.Mem.head _ | apply List.Mem.tail)))) (fun cs => ?_)
      refine WQ.then_panic ?_
      refine WQ.panicD (g := 58) (us := []) (cap := [pp b2, pp b3, pp b4]) (C2 := [pt b2 [Value.int .u8 0, .string (str []), .slice none 0 0] 74, pt b3 [.int .i64 (a : Int)] 3, pt b4 [.int .i64 4] 29]) (v := .tuple #[]) (ch2 := [{ v := .iface 105 (.agg #[.int .i64 (a : Int)]), recovered := true }]) F.fun58 (fun w hS => ?_) rfl (rs := [.cell 2 74, .cell 3 3, .cell 4 29]) rfl (.cellN F.agg74 rfl (by repeat (first | exact List.Mem.head _ | apply List.Mem.tail)) rfl (.cell1 F.one3 rfl (by repeat (first | exact List.Mem.head _ | apply List.Mem.tail)) rfl (.cell1 F.one29 rfl (by repeat (first | exact List.Mem.head _ | apply List.Mem.tail)) rfl .nil))) (fun w hS => ?_)
      · refine (catch_trouble b2 b3 b4 a _ _ _ (St.ne2 (St.pick (St.pick hS (c := pt b3 [.int .i64 0] 3) (by repeat (first | exact Rem.here | apply Rem.there))) (c := pt b2 [Value.int .u8 0, .string (str []), .slice none 0 0] 74) (by repeat (first | exact Rem.here | apply Rem.there)))) (St.ne2 (St.pick (St.pick hS (c := pt b4 [.int .i64 0] 29) (by repeat (first | exact Rem.here | apply Rem.there))) (c := pt b2 [Value.int .u8 0, .string (str []), .slice none 0 0] 74) (by repeat (first | exact Rem.here | apply Rem.there)))) (St.ne2 (St.pick (St.pick hS (c := pt b4 [.int .i64 0] 29) (by repeat (first | exact Rem.here | apply Rem.there))) (c := pt b3 [.int .i64 0] 3) (by repeat (first | exact Rem.here | apply Rem.there)))) rfl rfl rfl w (hS.heap (cs := [Value.int .u8 0, .string (str []), .slice none 0 0]) (by repeat (first | exact List.Mem.head _ | apply List.Mem.tail))) (hS.heap (cs := [.int .i64 0]) (by repeat (first | exact List.Mem.head _ | apply List.Mem.tail))) (hS.heap (cs := [.int .i64 0]) (by repeat (first | exact List.Mem.head _ | apply List.Mem.tail)))).mono (fun e u2 w2 h => ⟨h.1, h.2.1, ?_⟩)
        exact (St.call3 (St.pick (St.pick (St.pick hS (c := pt b4 [.int .i64 0] 29) (by repeat (first | exact Rem.here | apply Rem.there))) (c := pt b3 [.int .i64 0] 3) (by repeat (first | exact Rem.here | apply Rem.there))) (c := pt b2 [Value.int .u8 0, .string (str []), .slice none 0 0] 74) (by repeat (first | exact Rem.here | apply Rem.there))) h.2.2).sublist (List.sublist_append_left _ _)
      · rw [htop]
        exact ⟨([], none, 0), rfl, (St.node0 0 [] hS).one1⟩

end Go.Proofs.Ytkgllhkhdjodeaa

namespace Go.Proofs.Ytkgllhkhdjodeaa
open Go Go.Eng Go.Proofs
namespace F
theorem by113 : ByT Try.prog 113 9 5 := ⟨by kernel_rfl, by kernel_rfl, by
  obtain ⟨i, h1, h2⟩ := Option.map_eq_some_iff.1 (show (Try.prog.info? 5).map (fun i => (i.zero, i.size, i.bytes)) = some (some (.int .u8 0), 1, 1) by kernel_rfl)
  simp only [Prod.mk.injEq] at h2
  exact ⟨i, h1, h2.1, h2.2.1, h2.2.2⟩⟩
theorem und112 : Try.prog.underlying 112 = some (.pointer 115) := by kernel_rfl
theorem und151 : Try.prog.underlying 151 = some .unsafePointer := by kernel_rfl
theorem und148 : Try.prog.underlying 148 = some (.pointer 5) := by kernel_rfl
theorem cells5 : Try.prog.cellsOf 5 = 1 := by kernel_rfl
theorem size115 : (Try.prog.info? 115).map (·.size) = some 2 := by kernel_rfl
theorem lies115 : liesAt Try.prog Try.prog.depth 115 (2 / Try.prog.cellsOf 115) 0 115 1 = true := by kernel_rfl
end F
theorem neq88 (b : Nat) (w : World) : (do eqGuard .neq 112 (.tmp 17) (.tmp 18) (pp b) (pp b); binOp .neq 112 (pp b) (pp b) : Sem Value).run Try.prog w = .ok (.bool false) w := by
  obtain ⟨i, hi, hs⟩ := Option.map_eq_some_iff.1 F.size115
  have : ∀ d, (Op.equalIn (d+1) 112 (pp b) (pp b)).run Try.prog w = .ok true w := by
    intro d
    simp [Op.equalIn, run_underlying F.und112, sizeOf, typeInfo, hi, hs, sameAddr]
  have h2 : (Op.equal 112 (pp b) (pp b)).run Try.prog w = .ok true w := this 9999
  have h1 : (eqGuard .neq 112 (.tmp 17) (.tmp 18) (pp b) (pp b)).run Try.prog w = .ok () w := by kernel_rfl
  simp only [Sem.run_bind, h1, Result.andThen_ok]
  simp only [binOp]
  simp [h2]
/-- The block of a slice value, if any. -/
def ob (v : Value) : List Nat := match v.ownBlock with | some k => [k] | none => []
theorem mem_ob {v : Value} {k : Nat} : k ∈ ob v ↔ v.ownBlock = some k := by
  unfold ob
  cases v.ownBlock with
  | none => simp
  | some j => simp [eq_comm]

theorem copyCheck_c (b : Nat) (q v : Value) (hq : q = .pointer none ∨ q = pp b) (w : World) (hp : w.heap[b]? = some (.cells [q, v].toArray 115 (0, 0))) :
    Calls Try.prog 92 [pp b].toArray w fun e w' => e = .returned (.tuple #[]) ∧ St w [b] [pt b [pp b, v] 115] w' := by
  obtain ⟨i91, hi91, hs91⟩ := Option.map_eq_some_iff.1 F.size115
  refine enter Try.func92 rfl Try.ntmps92 rfl (St.init1 hp) ?_
  refine WC.seq ?_
  rcases hq with rfl | rfl
  · skip
    refine WC.region ?_
    refine WL.step ?_
    refine WL.move rfl rfl ?_
    refine WL.step ?_
    refine WL.nilCheck rfl rfl ?_
    refine WL.step ?_
    refine WL.fieldAddr0 F.fld115_0 rfl rfl ?_
    refine WL.step ?_
    refine WL.loadP F.one112 rfl rfl (by repeat (first | exact List.Mem.head _ | apply List.Mem.tail)) rfl ?_
    refine WL.step ?_
    refine WL.bin rfl rfl rfl (v := .bool true) (fun w => by kernel_rfl) ?_
    refine WL.nil ?_
    refine WQ.then_normal ?_
    refine WC.condT rfl ?_
    refine WC.region ?_
    refine WL.step ?_
    refine WL.move rfl rfl ?_
    refine WL.step ?_
    refine WL.move rfl rfl ?_
    refine WL.step ?_
    refine WL.convert rfl rfl (v := pp b) (fun w hS => Lib.run_to_unsafe w ⟨b, 0, none⟩ F.und112 F.und151 hi91 (by rw [hs91]; decide) (e := 115) (cells := 2) (by simp [World.shape?, hS.heap (cs := [.pointer none, v]) (e := 115) (by repeat (first | exact List.Mem.head _ | apply List.Mem.tail))]) (Nat.zero_lt_succ 1)) ?_
    refine WL.step ?_
    refine WL.callE rfl rfl (v := pp b) (fun w => by kernel_rfl) ?_
    refine WL.step ?_
    refine WL.convert rfl rfl (v := pp b) (fun w hS => Lib.run_from_unsafe w ⟨b, 0, none⟩ F.und151 F.und112 hi91 (e := 115) (cells := 2) (by simp [World.shape?, hS.heap (cs := [.pointer none, v]) (e := 115) (by repeat (first | exact List.Mem.head _ | apply List.Mem.tail))]) F.lies115) ?_
    refine WL.step ?_
    refine WL.nilCheck rfl rfl ?_
    refine WL.step ?_
    refine WL.fieldAddr0 F.fld115_0 rfl rfl ?_
    refine WL.step ?_
    refine WL.store1 F.one112 rfl rfl rfl (by repeat (first | exact Upd.here | apply Upd.there)) (by repeat constructor) ?_
    refine WL.nil ?_
    exact WQ.fin (rs := []) rfl .nil (fun w hS => ⟨rfl, hS⟩)
  · skip
    refine WC.region ?_
    refine WL.step ?_
    refine WL.move rfl rfl ?_
    refine WL.step ?_
    refine WL.nilCheck rfl rfl ?_
    refine WL.step ?_
    refine WL.fieldAddr0 F.fld115_0 rfl rfl ?_
    refine WL.step ?_
    refine WL.loadP F.one112 rfl rfl (by repeat (first | exact List.Mem.head _ | apply List.Mem.tail)) rfl ?_
    refine WL.step ?_
    refine WL.bin rfl rfl rfl (v := .bool false) (fun w => by kernel_rfl) ?_
    refine WL.nil ?_
    refine WQ.then_normal ?_
    refine WC.condF rfl ?_
    refine WC.seq ?_
    refine WC.region ?_
    refine WL.step ?_
    refine WL.move rfl rfl ?_
    refine WL.step ?_
    refine WL.nilCheck rfl rfl ?_
    refine WL.step ?_
    refine WL.fieldAddr0 F.fld115_0 rfl rfl ?_
    refine WL.step ?_
    refine WL.loadP F.one112 rfl rfl (by repeat (first | exact List.Mem.head _ | apply List.Mem.tail)) rfl ?_
    refine WL.step ?_
    refine WL.move rfl rfl ?_
    refine WL.step ?_
    refine WL.bin rfl rfl rfl (v := .bool false) (fun w => neq88 b w) ?_
    refine WL.nil ?_
    refine WQ.then_normal ?_
    refine WC.condF rfl ?_
    refine WC.skip ?_
    exact WQ.fin (rs := []) rfl .nil (fun w hS => ⟨rfl, hS⟩)

theorem bcells_append (l s : List UInt8) : bcells (l ++ s) = bcells l ++ bcells s := by simp [bcells]
/-- A builder of strings that has these bytes. -/
def bld (b : Nat) (q v : Value) (l : List UInt8) : List Chunk := [pt b [q, v] 115, rowc v l.length 5 1 (bcells l)]

theorem WriteString_c (b : Nat) (q v : Value) (l s : List UInt8) (hq : q = .pointer none ∨ q = pp b) (hb : l.length + s.length ≤ 140737488355328) (w : World) (hS0 : St w (b :: ob v) (bld b q v l) w) :
    Calls Try.prog 64 [pp b, .string (str s)].toArray w fun e w' => ∃ x : Option Addr × Nat, e = .returned (.tuple #[.int .i64 (s.length : Int), .nilIface]) ∧ St w (b :: ob v) (bld b (pp b) (.slice x.1 (l ++ s).length x.2) (l ++ s)) w' := by
  refine enter Try.func64 rfl Try.ntmps64 rfl (C := [pt b [q, v] 115, rowc v l.length 5 1 (bcells l)]) hS0 ?_
  refine WC.seq ?_
  refine WC.region ?_
  refine WL.step ?_
  refine WL.assign rfl rfl ?_
  refine WL.step ?_
  refine WL.assign rfl rfl ?_
  refine WL.nil ?_
  refine WQ.then_normal ?_
  refine WC.seq ?_
  refine WC.region ?_
  refine WL.step ?_
  refine WL.move rfl rfl ?_
  refine WL.step ?_
  refine WL.call1S (v := .tuple #[]) (bs := [q, v]) (bs' := [pp b, v]) (e := 115) F.fun92 rfl rfl (by repeat (first | exact Rem.here | apply Rem.there)) (fun w hS => copyCheck_c b q v hq w (hS.heap (by repeat (first | exact List.Mem.head _ | apply List.Mem.tail)))) ?_
  refine WL.nil ?_
  refine WQ.then_normal ?_
  refine WC.seq ?_
  refine WC.region ?_
  refine WL.step ?_
  refine WL.move rfl rfl ?_
  refine WL.step ?_
  refine WL.move rfl rfl ?_
  refine WL.step ?_
  refine WL.nilCheck rfl rfl ?_
  refine WL.step ?_
  refine WL.fieldAddr0 F.fld115_1 rfl rfl ?_
  refine WL.step ?_
  refine WL.loadP F.one113 rfl rfl (by repeat (first | exact List.Mem.head _ | apply List.Mem.tail)) rfl ?_
  refine WL.step ?_
  refine WL.move rfl rfl ?_
  refine WL.step ?_
  refine WL.appendS F.by113 rfl rfl rfl (by repeat (first | exact Rem.here | apply Rem.there)) hb (fun a cap => ?_)
  refine WL.step ?_
  refine WL.nilCheck rfl rfl ?_
  refine WL.step ?_
  refine WL.fieldAddr0 F.fld115_1 rfl rfl ?_
  refine WL.step ?_
  refine WL.store1 F.one113 rfl rfl rfl (by repeat (first | exact Upd.here | apply Upd.there)) (by repeat constructor) ?_
  refine WL.nil ?_
  refine WQ.then_normal ?_
  refine WC.seq ?_
  refine WC.region ?_
  refine WL.step ?_
  refine WL.move rfl rfl ?_
  refine WL.step ?_
  refine WL.lenS F.und9 rfl rfl ?_
  refine WL.step ?_
  refine WL.assign rfl rfl ?_
  refine WL.step ?_
  refine WL.assign rfl rfl ?_
  refine WL.nil ?_
  refine WQ.then_normal ?_
  refine WC.ret ?_
  refine WQ.ret (rs := [.tmp 4, .tmp 5]) rfl (.tmp rfl (.tmp rfl .nil)) (fun w hS => ?_)
  refine ⟨(a, cap), rfl, ?_⟩
  have h2 := (St.pick (St.pick hS (c := rowc (.slice a (l.length + s.length) cap) (l.length + s.length) 5 1 (bcells l ++ bcells s)) (by repeat (first | exact Rem.here | apply Rem.there))) (c := pt b [pp b, .slice a (l.length + s.length) cap] 115) (by repeat (first | exact Rem.here | apply Rem.there)))
  simpa only [bld, List.length_append, bcells_append] using h2.two2

theorem String_c (b : Nat) (q : Value) (a : Option Addr) (cap : Nat) (l : List UInt8) (hne : l ≠ []) (hb : l.length ≤ 140737488355328) (w : World) (hS0 : St w (b :: ob (.slice a l.length cap)) (bld b q (.slice a l.length cap) l) w) :
    Calls Try.prog 68 [pp b].toArray w fun e w' => e = .returned (.string (str l)) ∧ St w (b :: ob (.slice a l.length cap)) [pt b [q, .slice a l.length cap] 115] w' := by
  have hcap : cap ≠ 0 := by
    have hro : w.ownsRow 0 5 1 (.slice a l.length cap) l.length (bcells l) := hS0.ok (rowc (.slice a l.length cap) l.length 5 1 (bcells l)) (by repeat (first | exact List.Mem.head _ | apply List.Mem.tail))
    have hpos := List.length_pos_iff.2 hne
    rcases hro.2 with ⟨_, h0⟩ | ⟨g, cp, cur, hv, _, _, hle, _⟩
    · omega
    · injection hv with _ _ hc
      omega
  refine enter Try.func68 rfl Try.ntmps68 rfl (C := [pt b [q, .slice a l.length cap] 115, rowc (.slice a l.length cap) l.length 5 1 (bcells l)]) hS0 ?_
  refine WC.seq ?_
  refine WC.region ?_
  refine WL.step ?_
  refine WL.assign rfl rfl ?_
  refine WL.nil ?_
  refine WQ.then_normal ?_
  refine WC.seq ?_
  refine WC.draws [([4, 10], fun w => w.cell? ⟨b, 1, none⟩ = some (.slice a l.length cap)), ([10], fun w => w.cell? ⟨b, 1, none⟩ = some (.slice a l.length cap))] (by kernel_rfl) (fun w hS => facts_cons (hS.cell (by repeat (first | exact List.Mem.head _ | apply List.Mem.tail)) rfl) (facts_cons (hS.cell (by repeat (first | exact List.Mem.head _ | apply List.Mem.tail)) rfl) (facts_nil))) ?_
  refine WD.take (i := 0) rfl rfl rfl rfl (by kernel_rfl) (by kernel_rfl) (by kernel_rfl) (fun _ _ _ h => h) (by kernel_rfl) need_none (Yl.move rfl) ?_
  refine WD.take (i := 1) rfl rfl rfl rfl (by kernel_rfl) (by kernel_rfl) (by kernel_rfl) (fun _ _ _ h => h) (by kernel_rfl) need_none (Yl.nilCheck rfl) ?_
  refine WD.take (i := 2) rfl rfl rfl rfl (by kernel_rfl) (by kernel_rfl) (by kernel_rfl) (fun _ _ _ h => h) (by kernel_rfl) need_none (Yl.fieldAddr0 F.fld115_1 rfl) ?_
  refine WD.take (i := 3) rfl rfl rfl rfl (by kernel_rfl) (by kernel_rfl) (by kernel_rfl) (fun _ _ _ h => h) (by kernel_rfl) (need_at 0 12 rfl (by kernel_rfl)) (Yl.load1 F.one113 rfl) ?_
  refine WD.take (i := 5) rfl rfl rfl rfl (by kernel_rfl) (by kernel_rfl) (by kernel_rfl) (fun _ _ _ h => h) (by kernel_rfl) need_none (Yl.move rfl) ?_
  refine WD.take (i := 6) rfl rfl rfl rfl (by kernel_rfl) (by kernel_rfl) (by kernel_rfl) (fun _ _ _ h => h) (by kernel_rfl) need_none (Yl.nilCheck rfl) ?_
  refine WD.take (i := 7) rfl rfl rfl rfl (by kernel_rfl) (by kernel_rfl) (by kernel_rfl) (fun _ _ _ h => h) (by kernel_rfl) need_none (Yl.fieldAddr0 F.fld115_1 rfl) ?_
  refine WD.take (i := 8) rfl rfl rfl rfl (by kernel_rfl) (by kernel_rfl) (by kernel_rfl) (fun _ _ _ h => h) (by kernel_rfl) (need_at 1 12 rfl (by kernel_rfl)) (Yl.load1 F.one113 rfl) ?_
  refine WD.take (i := 9) rfl rfl rfl rfl (by kernel_rfl) (by kernel_rfl) (by kernel_rfl) (fun _ _ _ h => h) (by kernel_rfl) need_none (Yl.lenSl F.und113 rfl) ?_
  refine WD.one (i := 4) (by kernel_rfl) rfl ?_
  refine WL.sliceData rfl rfl (.inr hcap) ?_
  refine WD.on (closed_of (by kernel_rfl)) (fun w hS => Sx.gone rfl (Sx.keep (hS.cell (by repeat (first | exact List.Mem.head _ | apply List.Mem.tail)) rfl) (Sx.none))) ?_
  refine WD.one (i := 10) (by kernel_rfl) rfl ?_
  refine WL.unsafeString F.und148 F.cells5 rfl rfl rfl (by repeat (first | exact Rem.here | apply Rem.there)) hne hb ?_
  refine WD.on (closed_of (by kernel_rfl)) (fun w hS => Sx.gone rfl (Sx.gone rfl (Sx.none))) ?_
  refine WD.take (i := 11) rfl rfl rfl rfl (by kernel_rfl) (by kernel_rfl) (by kernel_rfl) (fun _ _ _ h => h) (by kernel_rfl) need_none (Yl.assign rfl) ?_
  refine WD.done (by kernel_rfl) ?_
  refine WQ.then_normal ?_
  refine WC.ret ?_
  exact WQ.ret (rs := [.tmp 2]) rfl (.tmp rfl .nil) (fun w hS => ⟨rfl, hS⟩)

end Go.Proofs.Ytkgllhkhdjodeaa

namespace Go.Proofs.Ytkgllhkhdjodeaa
open Go Go.Eng Go.Proofs
/-- The bytes of a slice that lies in the older world's memory. -/
def Bare (w : World) (O : List Nat) (a : Option Addr) (bs : List Int) : Prop := ∀ i u, bs[i]? = some u → ∃ b off, a = some ⟨b, off, none⟩ ∧ b ∉ O ∧ w.cell? ⟨b, off + i, none⟩ = some (.int .u8 u)
theorem contains_take {bs : List Int} {v u : Int} {i : Nat} (h : bs[i]? = some u) : (bs.take (i + 1)).contains v = ((bs.take i).contains v || (v == u)) := by
  rw [List.take_add_one, h]
  rw [Bool.eq_iff_iff]
  simp [List.contains_eq_mem]

theorem indexU_c (bs : List Int) (a : Option Addr) (c : Nat) (v : Int) (hlen : bs.length ≤ 1000) (w : World) (hb : Bare w [] a bs) :
    Calls Try.prog 91 [.slice a bs.length c, .int .u8 v].toArray w fun e w' => ∃ r : { r : Int // decide (0 ≤ r) = bs.contains v }, e = .returned (.int .i64 r.1) ∧ St w [] [] w' := by
  refine enter Try.func91 rfl Try.ntmps91 rfl (St.init _) ?_
  refine WC.seq ?_
  refine WC.region ?_
  refine WL.step ?_
  refine WL.assign rfl rfl ?_
  refine WL.nil ?_
  refine WQ.then_normal ?_
  refine WC.seq ?_
  refine WC.seq ?_
  refine WC.region ?_
  refine WL.step ?_
  refine WL.move rfl rfl ?_
  refine WL.step ?_
  refine WL.lenSl F.und113 rfl rfl ?_
  refine WL.step ?_
  refine WL.move rfl rfl ?_
  refine WL.nil ?_
  refine WQ.then_normal ?_
  refine WC.block ?_
  refine WC.loop (α := Nat) (fun i => i ≤ bs.length ∧ (bs.take i).contains v = false) (fun i => [(0, .slice a bs.length c), (1, .int .u8 v), (7, .int .i64 (bs.length : Int)), (8, .int .i64 (i : Int))]) (fun _ => []) (fun i => bs.length - i) (0) ?_ ?_ ?_ ?_
  · exact ⟨Nat.zero_le _, rfl⟩
  · exact ⟨rfl, rfl, rfl, rfl, trivial⟩
  · rfl
  rintro i ⟨hi, hno⟩
  refine WC.seq ?_
  refine WC.region ?_
  refine WL.step ?_
  refine WL.ltI rfl rfl rfl ?_
  refine WL.nil ?_
  refine WQ.then_normal ?_
  refine WC.seq ?_
  refine WC.cond rfl (fun h9 => ?_) (fun h9 => ?_)
  · skip
    have hlt : i < bs.length := by simpa using h9
    obtain ⟨u, hu⟩ : ∃ u, bs[i]? = some u := ⟨_, List.getElem?_eq_getElem hlt⟩
    obtain ⟨b, off, rfl, hbo, hcell⟩ := hb i u hu
    refine WC.skip ?_
    refine WQ.then_normal ?_
    refine WC.seq ?_
    refine WC.block ?_
    refine WC.seq ?_
    refine WC.region ?_
    refine WL.step ?_
    refine WL.move rfl rfl ?_
    refine WL.step ?_
    refine WL.assign rfl rfl ?_
    refine WL.nil ?_
    refine WQ.then_normal ?_
    refine WC.seq ?_
    refine WC.region ?_
    refine WL.step ?_
    refine WL.move rfl rfl ?_
    refine WL.step ?_
    refine WL.move rfl rfl ?_
    refine WL.step ?_
    refine WL.move rfl rfl ?_
    refine WL.step ?_
    refine WL.indexAddr F.sl113 rfl rfl rfl hlt ?_
    refine WL.step ?_
    refine WL.load1 F.one5 rfl rfl (v := .int .u8 u) (fun w hS => hS.oldc (by simpa using hcell) (by simp)) ?_
    refine WL.step ?_
    refine WL.eqI rfl rfl rfl ?_
    refine WL.nil ?_
    refine WQ.then_normal ?_
    refine WC.cond rfl (fun h16 => ?_) (fun h16 => ?_)
    · skip
      refine WC.seq ?_
      refine WC.region ?_
      refine WL.step ?_
      refine WL.move rfl rfl ?_
      refine WL.step ?_
      refine WL.assign rfl rfl ?_
      refine WL.nil ?_
      refine WQ.then_normal ?_
      refine WC.ret ?_
      refine WQ.block_ret ?_
      refine WQ.then_ret ?_
      refine WQ.then_ret ?_
      refine WQ.block_ret ?_
      refine WQ.then_ret ?_
      refine WQ.ret (rs := [.tmp 4]) rfl (.tmp rfl .nil) (fun w hS => ⟨⟨(i : Int), ?_⟩, rfl, hS⟩)
      have h2 : bs.contains v = true := by
        have hvu : v = u := by simpa using h16
        subst hvu
        simpa using List.mem_of_getElem? hu
      rw [h2]; simp
    · skip
      refine WC.skip ?_
      refine WQ.block_normal ?_
      refine WQ.then_normal ?_
      refine WC.region ?_
      refine WL.step ?_
      refine WL.add rfl rfl rfl ⟨by omega, by omega⟩ ?_
      refine WL.step ?_
      refine WL.move rfl rfl ?_
      refine WL.nil ?_
      refine WQ.back (i + 1) ?_ ?_ ?_ ?_
      · exact ⟨by omega, by rw [contains_take hu, hno, h16]; rfl⟩
      · omega
      · exact ⟨rfl, rfl, rfl, rfl, trivial⟩
      · rfl
  · skip
    have hie : i = bs.length := by simp at h9; omega
    subst hie
    rw [List.take_length] at hno
    refine WC.exit ?_
    refine WQ.then_exit ?_
    refine WQ.then_exit ?_
    refine WQ.block_exit ?_
    refine WQ.then_normal ?_
    refine WC.seq ?_
    refine WC.region ?_
    refine WL.step ?_
    refine WL.assign rfl rfl ?_
    refine WL.nil ?_
    refine WQ.then_normal ?_
    refine WC.ret ?_
    refine WQ.ret (rs := [.tmp 4]) rfl (.tmp rfl .nil) (fun w hS => ⟨⟨-1, ?_⟩, rfl, hS⟩)
    rw [hno]; rfl

theorem containsU_c (bs : List Int) (a : Option Addr) (c : Nat) (v : Int) (hlen : bs.length ≤ 1000) (w : World) (hb : Bare w [] a bs) : Pure Try.prog 63 [.slice a bs.length c, .int .u8 v] w (.bool (bs.contains v)) := by
  refine enter Try.func63 rfl Try.ntmps63 rfl (St.init _) ?_
  refine WC.seq ?_
  refine WC.region ?_
  refine WL.step ?_
  refine WL.assign rfl rfl ?_
  refine WL.nil ?_
  refine WQ.then_normal ?_
  refine WC.seq ?_
  refine WC.region ?_
  refine WL.step ?_
  refine WL.move rfl rfl ?_
  refine WL.step ?_
  refine WL.move rfl rfl ?_
  refine WL.step ?_
  refine WL.callC (β := { r : Int // decide (0 ≤ r) = bs.contains v }) (res := fun r => .int .i64 r.1) (cs := fun _ => []) (Cs := []) (O' := []) F.fun91 (fun d h => by cases h; rfl) rfl (List.Perm.refl _) (by simp) (by simp) (fun w hS _ => indexU_c bs a c v hlen w (fun i u hu => ?_)) (fun r => ?_)
  · obtain ⟨b, off, h1, h2, h3⟩ := hb i u hu
    exact ⟨b, off, h1, by simp, hS.oldc h3 (by simp)⟩
  refine WL.step ?_
  refine WL.geI rfl rfl rfl ?_
  refine WL.step ?_
  refine WL.assign rfl rfl ?_
  refine WL.nil ?_
  refine WQ.then_normal ?_
  refine WC.ret ?_
  refine WQ.ret (rs := [.tmp 4]) rfl (.tmp rfl .nil) (fun w hS => ⟨?_, hS⟩)
  exact congrArg (fun b => Ending.returned (Value.bool b)) r.2

theorem sign_c (op i : Int) (w : World) : Pure Try.prog 66 [.int .u8 op, .int .i64 i] w (.string (str (Fm.signS op i))) := by
  refine enter Try.func66 rfl Try.ntmps66 rfl (St.init _) ?_
  refine WC.seq ?_
  refine WC.region ?_
  refine WL.step ?_
  refine WL.assign rfl rfl ?_
  refine WL.nil ?_
  refine WQ.then_normal ?_
  refine WC.seq ?_
  refine WC.seq ?_
  refine WC.region ?_
  refine WL.step ?_
  refine WL.move rfl rfl ?_
  refine WL.nil ?_
  refine WQ.then_normal ?_
  refine WC.block ?_
  refine WC.seq ?_
  refine WC.region ?_
  refine WL.step ?_
  refine WL.eqI rfl rfl rfl ?_
  refine WL.step ?_
  refine WL.assign rfl rfl ?_
  refine WL.nil ?_
  refine WQ.then_normal ?_
  refine WC.cond rfl (fun h6 => ?_) (fun h6 => ?_)
  · skip
    refine WC.seq ?_
    refine WC.region ?_
    refine WL.step ?_
    refine WL.assign rfl rfl ?_
    refine WL.nil ?_
    refine WQ.then_normal ?_
    refine WC.ret ?_
    refine WQ.block_ret ?_
    refine WQ.then_ret ?_
    exact WQ.ret (rs := [.tmp 4]) rfl (.tmp rfl .nil) (fun w hS => ⟨by simp_all [tup, Fm.signS, str], hS⟩)
  · skip
    refine WC.seq ?_
    refine WC.region ?_
    refine WL.step ?_
    refine WL.eqI rfl rfl rfl ?_
    refine WL.step ?_
    refine WL.assign rfl rfl ?_
    refine WL.nil ?_
    refine WQ.then_normal ?_
    refine WC.cond rfl (fun h8 => ?_) (fun h8 => ?_)
    · skip
      refine WC.seq ?_
      refine WC.region ?_
      refine WL.step ?_
      refine WL.assign rfl rfl ?_
      refine WL.nil ?_
      refine WQ.then_normal ?_
      refine WC.ret ?_
      refine WQ.block_ret ?_
      refine WQ.then_ret ?_
      exact WQ.ret (rs := [.tmp 4]) rfl (.tmp rfl .nil) (fun w hS => ⟨by simp_all [tup, Fm.signS, str], hS⟩)
    · skip
      refine WC.seq ?_
      refine WC.region ?_
      refine WL.step ?_
      refine WL.eqI rfl rfl rfl ?_
      refine WL.step ?_
      refine WL.assign rfl rfl ?_
      refine WL.nil ?_
      refine WQ.then_normal ?_
      refine WC.cond rfl (fun h10 => ?_) (fun h10 => ?_)
      · skip
        refine WC.seq ?_
        refine WC.region ?_
        refine WL.step ?_
        refine WL.assign rfl rfl ?_
        refine WL.nil ?_
        refine WQ.then_normal ?_
        refine WC.ret ?_
        refine WQ.block_ret ?_
        refine WQ.then_ret ?_
        exact WQ.ret (rs := [.tmp 4]) rfl (.tmp rfl .nil) (fun w hS => ⟨by simp_all [tup, Fm.signS, str], hS⟩)
      · skip
        refine WC.seq ?_
        refine WC.region ?_
        refine WL.step ?_
        refine WL.eqI rfl rfl rfl ?_
        refine WL.step ?_
        refine WL.assign rfl rfl ?_
        refine WL.nil ?_
        refine WQ.then_normal ?_
        refine WC.cond rfl (fun h12 => ?_) (fun h12 => ?_)
        · skip
          refine WC.seq ?_
          refine WC.region ?_
          refine WL.step ?_
          refine WL.assign rfl rfl ?_
          refine WL.nil ?_
          refine WQ.then_normal ?_
          refine WC.ret ?_
          refine WQ.block_ret ?_
          refine WQ.then_ret ?_
          exact WQ.ret (rs := [.tmp 4]) rfl (.tmp rfl .nil) (fun w hS => ⟨by simp_all [tup, Fm.signS, str], hS⟩)
        · skip
          refine WC.seq ?_
          refine WC.region ?_
          refine WL.step ?_
          refine WL.eqI rfl rfl rfl ?_
          refine WL.step ?_
          refine WL.assign rfl rfl ?_
          refine WL.nil ?_
          refine WQ.then_normal ?_
          refine WC.cond rfl (fun h14 => ?_) (fun h14 => ?_)
          · skip
            refine WC.seq ?_
            refine WC.region ?_
            refine WL.step ?_
            refine WL.assign rfl rfl ?_
            refine WL.nil ?_
            refine WQ.then_normal ?_
            refine WC.ret ?_
            refine WQ.block_ret ?_
            refine WQ.then_ret ?_
            exact WQ.ret (rs := [.tmp 4]) rfl (.tmp rfl .nil) (fun w hS => ⟨by simp_all [tup, Fm.signS, str], hS⟩)
          · skip
            refine WC.skip ?_
            refine WQ.block_normal ?_
            refine WQ.then_normal ?_
            refine WC.seq ?_
            refine WC.seq ?_
            refine WC.region ?_
            refine WL.step ?_
            refine WL.move rfl rfl ?_
            refine WL.step ?_
            refine WL.eqI rfl rfl rfl ?_
            refine WL.nil ?_
            refine WQ.then_normal ?_
            refine WC.cond rfl (fun h17 => ?_) (fun h17 => ?_)
            · skip
              refine WC.seq ?_
              refine WC.region ?_
              refine WL.step ?_
              refine WL.assign rfl rfl ?_
              refine WL.nil ?_
              refine WQ.then_normal ?_
              refine WC.ret ?_
              refine WQ.then_ret ?_
              exact WQ.ret (rs := [.tmp 4]) rfl (.tmp rfl .nil) (fun w hS => ⟨by simp_all [tup, Fm.signS, str], hS⟩)
            · skip
              refine WC.skip ?_
              refine WQ.then_normal ?_
              refine WC.seq ?_
              refine WC.region ?_
              refine WL.step ?_
              refine WL.assign rfl rfl ?_
              refine WL.nil ?_
              refine WQ.then_normal ?_
              refine WC.ret ?_
              exact WQ.ret (rs := [.tmp 4]) rfl (.tmp rfl .nil) (fun w hS => ⟨by simp_all [tup, Fm.signS, str], hS⟩)

theorem bare_c (op i : Int) (w : World) :
    Calls Try.prog 67 [.int .u8 op, .int .i64 i].toArray w fun e w' => ∃ x : Nat × Option Addr × Nat, (x.2.1 = some ⟨x.1, 0, none⟩ ∨ Fm.bareN op i = 0) ∧ e = .returned (.slice x.2.1 (Fm.bareL.take (Fm.bareN op i)).length x.2.2) ∧ St w [] [pt x.1 (Fm.bareL.map (Value.int .u8)) 5] w' := by
  refine enter Try.func67 rfl Try.ntmps67 rfl (St.init _) ?_
  refine WC.seq ?_
  refine WC.region ?_
  refine WL.step ?_
  refine WL.assign rfl rfl ?_
  refine WL.nil ?_
  refine WQ.then_normal ?_
  refine WC.seq ?_
  refine WC.region ?_
  refine WL.step ?_
  refine WL.buildSlice F.sl113 F.ez113 rfl rfl rfl rfl (by repeat (first | exact Built.nil | apply Built.one rfl rfl (by repeat constructor) | apply Built.agg rfl rfl (by repeat constructor))) rfl (fun b6 => ?_)
  refine WL.step ?_
  refine WL.assign rfl rfl ?_
  refine WL.nil ?_
  refine WQ.then_normal ?_
  refine WC.seq ?_
  refine WC.block ?_
  refine WC.seq ?_
  refine WC.region ?_
  refine WL.step ?_
  refine WL.move rfl rfl ?_
  refine WL.step ?_
  refine WL.eqI rfl rfl rfl ?_
  refine WL.step ?_
  refine WL.assign rfl rfl ?_
  refine WL.nil ?_
  refine WQ.then_normal ?_
  refine WC.cond rfl (fun h7 => ?_) (fun h7 => ?_)
  · skip
    refine WC.seq ?_
    refine WC.region ?_
    refine WL.step ?_
    refine WL.assign rfl rfl ?_
    refine WL.nil ?_
    refine WQ.then_normal ?_
    refine WC.ret ?_
    refine WQ.block_ret ?_
    refine WQ.then_ret ?_
    refine WQ.ret (rs := [.tmp 4]) rfl (.tmp rfl .nil) (fun w hS => ?_)
    first | (refine ⟨(b6, some ⟨b6, 0, none⟩, 6), .inl rfl, ?_, hS⟩; simp_all [tup, Fm.bareN, Fm.bareL]; done) | (refine ⟨(b6, none, 0), .inr ?_, ?_, hS⟩ <;> simp_all [tup, Fm.bareN, Fm.bareL]; done)
  · skip
    refine WC.seq ?_
    refine WC.region ?_
    refine WL.step ?_
    refine WL.move rfl rfl ?_
    refine WL.step ?_
    refine WL.eqI rfl rfl rfl ?_
    refine WL.step ?_
    refine WL.assign rfl rfl ?_
    refine WL.nil ?_
    refine WQ.then_normal ?_
    refine WC.cond rfl (fun h10 => ?_) (fun h10 => ?_)
    · skip
      refine WC.seq ?_
      refine WC.region ?_
      refine WL.step ?_
      refine WL.move rfl rfl ?_
      refine WL.step ?_
      refine WL.y (F := fun _ => True) (Yl.sliceSlTo (n := 1) F.sl113 rfl rfl (by decide)) rfl (fun _ _ => trivial) ?_
      refine WL.step ?_
      refine WL.assign rfl rfl ?_
      refine WL.nil ?_
      refine WQ.then_normal ?_
      refine WC.ret ?_
      refine WQ.block_ret ?_
      refine WQ.then_ret ?_
      refine WQ.ret (rs := [.tmp 4]) rfl (.tmp rfl .nil) (fun w hS => ?_)
      first | (refine ⟨(b6, some ⟨b6, 0, none⟩, 6), .inl rfl, ?_, hS⟩; simp_all [tup, Fm.bareN, Fm.bareL]; done) | (refine ⟨(b6, none, 0), .inr ?_, ?_, hS⟩ <;> simp_all [tup, Fm.bareN, Fm.bareL]; done)
    · skip
      refine WC.seq ?_
      refine WC.region ?_
      refine WL.step ?_
      refine WL.move rfl rfl ?_
      refine WL.step ?_
      refine WL.eqI rfl rfl rfl ?_
      refine WL.step ?_
      refine WL.assign rfl rfl ?_
      refine WL.nil ?_
      refine WQ.then_normal ?_
      refine WC.cond rfl (fun h15 => ?_) (fun h15 => ?_)
      · skip
        refine WC.seq ?_
        refine WC.region ?_
        refine WL.step ?_
        refine WL.move rfl rfl ?_
        refine WL.step ?_
        refine WL.y (F := fun _ => True) (Yl.sliceSlTo (n := 2) F.sl113 rfl rfl (by decide)) rfl (fun _ _ => trivial) ?_
        refine WL.step ?_
        refine WL.assign rfl rfl ?_
        refine WL.nil ?_
        refine WQ.then_normal ?_
        refine WC.ret ?_
        refine WQ.block_ret ?_
        refine WQ.then_ret ?_
        refine WQ.ret (rs := [.tmp 4]) rfl (.tmp rfl .nil) (fun w hS => ?_)
        first | (refine ⟨(b6, some ⟨b6, 0, none⟩, 6), .inl rfl, ?_, hS⟩; simp_all [tup, Fm.bareN, Fm.bareL]; done) | (refine ⟨(b6, none, 0), .inr ?_, ?_, hS⟩ <;> simp_all [tup, Fm.bareN, Fm.bareL]; done)
      · skip
        refine WC.seq ?_
        refine WC.region ?_
        refine WL.step ?_
        refine WL.move rfl rfl ?_
        refine WL.step ?_
        refine WL.eqI rfl rfl rfl ?_
        refine WL.step ?_
        refine WL.move rfl rfl ?_
        refine WA.splitB (i := 23) rfl (fun h23 => ?_) (fun h23 => ?_)
        · skip
          refine WL.step (WL.guardT rfl rfl rfl ?_)
          refine WL.move rfl rfl ?_
          refine WL.step (WL.guardT rfl rfl rfl ?_)
          refine WL.eqI rfl rfl rfl ?_
          refine WL.step ?_
          refine WL.pickT rfl rfl rfl ?_
          refine WL.step ?_
          refine WL.assign rfl rfl ?_
          refine WL.nil ?_
          refine WQ.then_normal ?_
          refine WC.cond rfl (fun h20 => ?_) (fun h20 => ?_)
          · skip
            refine WC.seq ?_
            refine WC.region ?_
            refine WL.step ?_
            refine WL.move rfl rfl ?_
            refine WL.step ?_
            refine WL.y (F := fun _ => True) (Yl.sliceSlTo (n := 3) F.sl113 rfl rfl (by decide)) rfl (fun _ _ => trivial) ?_
            refine WL.step ?_
            refine WL.assign rfl rfl ?_
            refine WL.nil ?_
            refine WQ.then_normal ?_
            refine WC.ret ?_
            refine WQ.block_ret ?_
            refine WQ.then_ret ?_
            refine WQ.ret (rs := [.tmp 4]) rfl (.tmp rfl .nil) (fun w hS => ?_)
            first | (refine ⟨(b6, some ⟨b6, 0, none⟩, 6), .inl rfl, ?_, hS⟩; simp_all [tup, Fm.bareN, Fm.bareL]; done) | (refine ⟨(b6, none, 0), .inr ?_, ?_, hS⟩ <;> simp_all [tup, Fm.bareN, Fm.bareL]; done)
          · skip
            refine WC.seq ?_
            refine WC.region ?_
            refine WL.step ?_
            refine WL.move rfl rfl ?_
            refine WL.step ?_
            refine WL.eqI rfl rfl rfl ?_
            refine WL.step ?_
            refine WL.move rfl rfl ?_
            refine WA.splitB (i := 32) rfl (fun h32 => ?_) (fun h32 => ?_)
            · skip
              refine WL.step (WL.guardF rfl rfl rfl rfl rfl rfl ?_)
              refine WL.step (WL.guardF rfl rfl rfl rfl rfl rfl ?_)
              refine WL.step ?_
              refine WL.pickT rfl rfl rfl ?_
              refine WL.step ?_
              refine WL.assign rfl rfl ?_
              refine WL.nil ?_
              refine WQ.then_normal ?_
              refine WC.condT rfl ?_
              refine WC.seq ?_
              refine WC.region ?_
              refine WL.step ?_
              refine WL.move rfl rfl ?_
              refine WL.step ?_
              refine WL.y (F := fun _ => True) (Yl.sliceSlTo (n := 4) F.sl113 rfl rfl (by decide)) rfl (fun _ _ => trivial) ?_
              refine WL.step ?_
              refine WL.assign rfl rfl ?_
              refine WL.nil ?_
              refine WQ.then_normal ?_
              refine WC.ret ?_
              refine WQ.block_ret ?_
              refine WQ.then_ret ?_
              refine WQ.ret (rs := [.tmp 4]) rfl (.tmp rfl .nil) (fun w hS => ?_)
              first | (refine ⟨(b6, some ⟨b6, 0, none⟩, 6), .inl rfl, ?_, hS⟩; simp_all [tup, Fm.bareN, Fm.bareL]; done) | (refine ⟨(b6, none, 0), .inr ?_, ?_, hS⟩ <;> simp_all [tup, Fm.bareN, Fm.bareL]; done)
            · skip
              refine WL.step (WL.guardT rfl rfl rfl ?_)
              refine WL.move rfl rfl ?_
              refine WL.step (WL.guardT rfl rfl rfl ?_)
              refine WL.eqI rfl rfl rfl ?_
              refine WL.step ?_
              refine WL.pickF rfl rfl rfl ?_
              refine WL.step ?_
              refine WL.assign rfl rfl ?_
              refine WL.nil ?_
              refine WQ.then_normal ?_
              refine WC.cond rfl (fun h29 => ?_) (fun h29 => ?_)
              · skip
                refine WC.seq ?_
                refine WC.region ?_
                refine WL.step ?_
                refine WL.move rfl rfl ?_
                refine WL.step ?_
                refine WL.y (F := fun _ => True) (Yl.sliceSlTo (n := 4) F.sl113 rfl rfl (by decide)) rfl (fun _ _ => trivial) ?_
                refine WL.step ?_
                refine WL.assign rfl rfl ?_
                refine WL.nil ?_
                refine WQ.then_normal ?_
                refine WC.ret ?_
                refine WQ.block_ret ?_
                refine WQ.then_ret ?_
                refine WQ.ret (rs := [.tmp 4]) rfl (.tmp rfl .nil) (fun w hS => ?_)
                first | (refine ⟨(b6, some ⟨b6, 0, none⟩, 6), .inl rfl, ?_, hS⟩; simp_all [tup, Fm.bareN, Fm.bareL]; done) | (refine ⟨(b6, none, 0), .inr ?_, ?_, hS⟩ <;> simp_all [tup, Fm.bareN, Fm.bareL]; done)
              · skip
                refine WC.seq ?_
                refine WC.region ?_
                refine WL.step ?_
                refine WL.move rfl rfl ?_
                refine WL.step ?_
                refine WL.eqI rfl rfl rfl ?_
                refine WL.step ?_
                refine WL.assign rfl rfl ?_
                refine WL.nil ?_
                refine WQ.then_normal ?_
                refine WC.cond rfl (fun h38 => ?_) (fun h38 => ?_)
                · skip
                  refine WC.seq ?_
                  refine WC.region ?_
                  refine WL.step ?_
                  refine WL.move rfl rfl ?_
                  refine WL.step ?_
                  refine WL.y (F := fun _ => True) (Yl.sliceSlTo (n := 5) F.sl113 rfl rfl (by decide)) rfl (fun _ _ => trivial) ?_
                  refine WL.step ?_
                  refine WL.assign rfl rfl ?_
                  refine WL.nil ?_
                  refine WQ.then_normal ?_
                  refine WC.ret ?_
                  refine WQ.block_ret ?_
                  refine WQ.then_ret ?_
                  refine WQ.ret (rs := [.tmp 4]) rfl (.tmp rfl .nil) (fun w hS => ?_)
                  first | (refine ⟨(b6, some ⟨b6, 0, none⟩, 6), .inl rfl, ?_, hS⟩; simp_all [tup, Fm.bareN, Fm.bareL]; done) | (refine ⟨(b6, none, 0), .inr ?_, ?_, hS⟩ <;> simp_all [tup, Fm.bareN, Fm.bareL]; done)
                · skip
                  refine WC.skip ?_
                  refine WQ.block_normal ?_
                  refine WQ.then_normal ?_
                  refine WC.seq ?_
                  refine WC.region ?_
                  refine WL.step ?_
                  refine WL.move rfl rfl ?_
                  refine WL.step ?_
                  refine WL.assign rfl rfl ?_
                  refine WL.nil ?_
                  refine WQ.then_normal ?_
                  refine WC.ret ?_
                  refine WQ.ret (rs := [.tmp 4]) rfl (.tmp rfl .nil) (fun w hS => ?_)
                  first | (refine ⟨(b6, some ⟨b6, 0, none⟩, 6), .inl rfl, ?_, hS⟩; simp_all [tup, Fm.bareN, Fm.bareL]; done) | (refine ⟨(b6, none, 0), .inr ?_, ?_, hS⟩ <;> simp_all [tup, Fm.bareN, Fm.bareL]; done)
        · skip
          refine WL.step (WL.guardF rfl rfl rfl rfl rfl rfl ?_)
          refine WL.step (WL.guardF rfl rfl rfl rfl rfl rfl ?_)
          refine WL.step ?_
          refine WL.pickF rfl rfl rfl ?_
          refine WL.step ?_
          refine WL.assign rfl rfl ?_
          refine WL.nil ?_
          refine WQ.then_normal ?_
          refine WC.condF rfl ?_
          refine WC.seq ?_
          refine WC.region ?_
          refine WL.step ?_
          refine WL.move rfl rfl ?_
          refine WL.step ?_
          refine WL.eqI rfl rfl rfl ?_
          refine WL.step ?_
          refine WL.move rfl rfl ?_
          refine WA.splitB (i := 32) rfl (fun h32 => ?_) (fun h32 => ?_)
          · skip
            refine WL.step (WL.guardF rfl rfl rfl rfl rfl rfl ?_)
            refine WL.step (WL.guardF rfl rfl rfl rfl rfl rfl ?_)
            refine WL.step ?_
            refine WL.pickT rfl rfl rfl ?_
            refine WL.step ?_
            refine WL.assign rfl rfl ?_
            refine WL.nil ?_
            refine WQ.then_normal ?_
            refine WC.condT rfl ?_
            refine WC.seq ?_
            refine WC.region ?_
            refine WL.step ?_
            refine WL.move rfl rfl ?_
            refine WL.step ?_
            refine WL.y (F := fun _ => True) (Yl.sliceSlTo (n := 4) F.sl113 rfl rfl (by decide)) rfl (fun _ _ => trivial) ?_
            refine WL.step ?_
            refine WL.assign rfl rfl ?_
            refine WL.nil ?_
            refine WQ.then_normal ?_
            refine WC.ret ?_
            refine WQ.block_ret ?_
            refine WQ.then_ret ?_
            refine WQ.ret (rs := [.tmp 4]) rfl (.tmp rfl .nil) (fun w hS => ?_)
            first | (refine ⟨(b6, some ⟨b6, 0, none⟩, 6), .inl rfl, ?_, hS⟩; simp_all [tup, Fm.bareN, Fm.bareL]; done) | (refine ⟨(b6, none, 0), .inr ?_, ?_, hS⟩ <;> simp_all [tup, Fm.bareN, Fm.bareL]; done)
          · skip
            refine WL.step (WL.guardT rfl rfl rfl ?_)
            refine WL.move rfl rfl ?_
            refine WL.step (WL.guardT rfl rfl rfl ?_)
            refine WL.eqI rfl rfl rfl ?_
            refine WL.step ?_
            refine WL.pickF rfl rfl rfl ?_
            refine WL.step ?_
            refine WL.assign rfl rfl ?_
            refine WL.nil ?_
            refine WQ.then_normal ?_
            refine WC.cond rfl (fun h29 => ?_) (fun h29 => ?_)
            · skip
              refine WC.seq ?_
              refine WC.region ?_
              refine WL.step ?_
              refine WL.move rfl rfl ?_
              refine WL.step ?_
              refine WL.y (F := fun _ => True) (Yl.sliceSlTo (n := 4) F.sl113 rfl rfl (by decide)) rfl (fun _ _ => trivial) ?_
              refine WL.step ?_
              refine WL.assign rfl rfl ?_
              refine WL.nil ?_
              refine WQ.then_normal ?_
              refine WC.ret ?_
              refine WQ.block_ret ?_
              refine WQ.then_ret ?_
              refine WQ.ret (rs := [.tmp 4]) rfl (.tmp rfl .nil) (fun w hS => ?_)
              first | (refine ⟨(b6, some ⟨b6, 0, none⟩, 6), .inl rfl, ?_, hS⟩; simp_all [tup, Fm.bareN, Fm.bareL]; done) | (refine ⟨(b6, none, 0), .inr ?_, ?_, hS⟩ <;> simp_all [tup, Fm.bareN, Fm.bareL]; done)
            · skip
              refine WC.seq ?_
              refine WC.region ?_
              refine WL.step ?_
              refine WL.move rfl rfl ?_
              refine WL.step ?_
              refine WL.eqI rfl rfl rfl ?_
              refine WL.step ?_
              refine WL.assign rfl rfl ?_
              refine WL.nil ?_
              refine WQ.then_normal ?_
              refine WC.cond rfl (fun h38 => ?_) (fun h38 => ?_)
              · skip
                refine WC.seq ?_
                refine WC.region ?_
                refine WL.step ?_
                refine WL.move rfl rfl ?_
                refine WL.step ?_
                refine WL.y (F := fun _ => True) (Yl.sliceSlTo (n := 5) F.sl113 rfl rfl (by decide)) rfl (fun _ _ => trivial) ?_
                refine WL.step ?_
                refine WL.assign rfl rfl ?_
                refine WL.nil ?_
                refine WQ.then_normal ?_
                refine WC.ret ?_
                refine WQ.block_ret ?_
                refine WQ.then_ret ?_
                refine WQ.ret (rs := [.tmp 4]) rfl (.tmp rfl .nil) (fun w hS => ?_)
                first | (refine ⟨(b6, some ⟨b6, 0, none⟩, 6), .inl rfl, ?_, hS⟩; simp_all [tup, Fm.bareN, Fm.bareL]; done) | (refine ⟨(b6, none, 0), .inr ?_, ?_, hS⟩ <;> simp_all [tup, Fm.bareN, Fm.bareL]; done)
              · skip
                refine WC.skip ?_
                refine WQ.block_normal ?_
                refine WQ.then_normal ?_
                refine WC.seq ?_
                refine WC.region ?_
                refine WL.step ?_
                refine WL.move rfl rfl ?_
                refine WL.step ?_
                refine WL.assign rfl rfl ?_
                refine WL.nil ?_
                refine WQ.then_normal ?_
                refine WC.ret ?_
                refine WQ.ret (rs := [.tmp 4]) rfl (.tmp rfl .nil) (fun w hS => ?_)
                first | (refine ⟨(b6, some ⟨b6, 0, none⟩, 6), .inl rfl, ?_, hS⟩; simp_all [tup, Fm.bareN, Fm.bareL]; done) | (refine ⟨(b6, none, 0), .inr ?_, ?_, hS⟩ <;> simp_all [tup, Fm.bareN, Fm.bareL]; done)

end Go.Proofs.Ytkgllhkhdjodeaa

namespace Go.Proofs.Ytkgllhkhdjodeaa
open Go Go.Eng Go.Proofs
section
variable {P : Program} {w0 : World} {O : List Nat} {ops : Array Oper} {Q : Exit → Act → World → Prop} {N : Nat} {D : List Deferred} {L : FL} {C : List Chunk} {K : Act → World → Prop}
variable {d : Nat} {ty : TypeId} {pos : String} {af : Array Edge}
theorem bld_fp1 {b : Nat} {q v : Value} {n : Nat} {xs : List Value} : ∀ c ∈ [pt b [q, v] 115, rowc v n 5 1 xs], ∀ k, c.fp k → k ∈ b :: ob v := by
  intro c hc k hk
  simp only [List.mem_cons, List.not_mem_nil, or_false] at hc
  rcases hc with rfl | rfl
  · have : k = b := hk
    simp [this]
  · exact List.mem_cons_of_mem _ (mem_ob.2 hk)
theorem bld_fp2 {b : Nat} {q v : Value} {n : Nat} {xs : List Value} : ∀ k ∈ b :: ob v, ∃ c ∈ [pt b [q, v] 115, rowc v n 5 1 xs], c.fp k := by
  intro k hk
  rcases List.mem_cons.1 hk with rfl | hk
  · exact ⟨_, List.mem_cons_self .., rfl⟩
  · exact ⟨_, List.mem_cons_of_mem _ (List.mem_cons_self ..), mem_ob.1 hk⟩
/-- A call that gets the builder. -/
theorem WL.callB {β : Type} {f : FuncId} {xs : List Operand} {tys : Array TypeId} {vs : List Value} {res : β → Value} {c1 c2 : β → Chunk} {q v : Value} {l : List UInt8} {b : Nat} {Ca C1 : List Chunk}
    (hf : funB P f = some true) (hd : Nat.blt d N = true) (hx : evs L xs = some vs) (hr1 : Rem (pt b [q, v] 115) C Ca) (hr2 : Rem (rowc v l.length 5 1 (bcells l)) Ca C1)
    (hc : ∀ w, St w0 O (pt b [q, v] 115 :: rowc v l.length 5 1 (bcells l) :: C1) w → St w (b :: ob v) (bld b q v l) w → Calls P f vs.toArray w fun e w' => ∃ x, e = .returned (res x) ∧ St w (b :: ob v) [c1 x, c2 x] w')
    (h : ∀ x, WA w0 O K N D ((d, res x) :: L) (c1 x :: c2 x :: C1)) :
    WK P w0 O ops Q ⟨some d, .call { callee := .value (.func f), args := xs.toArray, argTypes := tys }, ty, pos, af, none⟩ K N D L C :=
  WL.callC (Cs := [pt b [q, v] 115, rowc v l.length 5 1 (bcells l)]) (cs := fun x => [c1 x, c2 x]) (O' := b :: ob v) hf (fun d' e => by cases e; exact hd) hx (hr1.perm.trans (hr2.perm.cons _)) bld_fp1 bld_fp2 hc h
theorem WL.callFB {β : Type} {f : FuncId} {x : Operand} {xs : List Operand} {tys : Array TypeId} {vs us cap : List Value} {res : β → Value} {c1 c2 : β → Chunk} {q v : Value} {l : List UInt8} {b : Nat} {Ca C1 : List Chunk}
    (hf : funB P f = some true) (hd : Nat.blt d N = true) (hfv : ev L x = some (.func (.func f) us.toArray cap.toArray)) (hx : evs L xs = some vs) (hr1 : Rem (pt b [q, v] 115) C Ca) (hr2 : Rem (rowc v l.length 5 1 (bcells l)) Ca C1)
    (hc : ∀ w, St w0 O (pt b [q, v] 115 :: rowc v l.length 5 1 (bcells l) :: C1) w → St w (b :: ob v) (bld b q v l) w → Calls P f (us ++ vs ++ cap).toArray w fun e w' => ∃ x, e = .returned (res x) ∧ St w (b :: ob v) [c1 x, c2 x] w')
    (h : ∀ x, WA w0 O K N D ((d, res x) :: L) (c1 x :: c2 x :: C1)) :
    WK P w0 O ops Q ⟨some d, .call { callee := .value x, args := xs.toArray, argTypes := tys }, ty, pos, af, none⟩ K N D L C :=
  WL.callFC (Cs := [pt b [q, v] 115, rowc v l.length 5 1 (bcells l)]) (cs := fun x => [c1 x, c2 x]) (O' := b :: ob v) hf (fun d' e => by cases e; exact hd) hfv hx (hr1.perm.trans (hr2.perm.cons _)) bld_fp1 bld_fp2 hc h
end

/-- What the two closures of Print stand on: the tree, the boxes that hold the closures. -/
structure PEnv (w : World) (O : List Nat) (bo bp bk : Nat) (t : Tree) (G : List Nat) (a : Option Addr) (c : Nat) : Prop where
  rd : rdT w t G (tv t a c)
  nf : ∀ k ∈ G, k ∉ O
  h5 : w.heap[bp]? = some (.cells [Value.func (.func 65) [].toArray [pp bo, pp bk].toArray].toArray 116 (0, 0))
  h6 : w.heap[bk]? = some (.cells [Value.func (.func 62) [].toArray [pp bp, pp bo].toArray].toArray 122 (0, 0))
  n5 : bp ∉ O
  n6 : bk ∉ O
theorem PEnv.next {w0 w : World} {O O' : List Nat} {C : List Chunk} {bo bp bk : Nat} {t : Tree} {G : List Nat} {a : Option Addr} {c : Nat} (hE : PEnv w0 O bo bp bk t G a c) (hS : St w0 O C w) (hO : ∀ k ∈ O', ∃ ch ∈ C, ch.fp k) :
    PEnv w O' bo bp bk t G a c := by
  have hn : ∀ k, k < w0.heap.size → k ∉ O → k ∉ O' := fun k hlt hk hk' => by
    obtain ⟨ch, h1, h2⟩ := hO k hk'
    exact hk ((hS.bnd ch h1 k h2).2 hlt)
  exact ⟨hS.oldT hE.rd (fun k hk => ⟨rdT_lt hE.rd k hk, hE.nf k hk⟩), fun k hk => hn k (rdT_lt hE.rd k hk) (hE.nf k hk), hS.oldh hE.h5 hE.n5, hS.oldh hE.h6 hE.n6, hn _ (lt_of_heap hE.h5) hE.n5, hn _ (lt_of_heap hE.h6) hE.n6⟩
theorem PEnv.nextB {w0 w : World} {O : List Nat} {C1 : List Chunk} {bo bp bk : Nat} {t : Tree} {G : List Nat} {a : Option Addr} {c : Nat} {q v : Value} {n : Nat} {xs : List Value} (hE : PEnv w0 O bo bp bk t G a c) (hS : St w0 O (pt bo [q, v] 115 :: rowc v n 5 1 xs :: C1) w) :
    PEnv w (bo :: ob v) bo bp bk t G a c := hE.next hS (fun k hk => by
  obtain ⟨ch, h1, h2⟩ := bld_fp2 (b := bo) (q := q) (v := v) (n := n) (xs := xs) k hk
  exact ⟨ch, List.mem_append_left C1 h1, h2⟩)
theorem PEnv.kid {w : World} {O : List Nat} {bo bp bk : Nat} {t k : Tree} {G : List Nat} {a : Option Addr} {c i : Nat} (hE : PEnv w O bo bp bk t G a c) (hi : t.kids[i]? = some k) :
    ∃ b off F1 a1 c1, a = some ⟨b, off, none⟩ ∧ b ∉ O ∧ PEnv w O bo bp bk k F1 a1 c1 ∧
      (∀ j v, [Value.int .u8 k.op, .string (str k.name), .slice a1 k.kids.length c1][j]? = some v → w.cell? ⟨b, off + i * 3 + j, none⟩ = some v) := by
  obtain ⟨b, off, F1, a1, c1, ha, hb, hF, hr, hc⟩ := rdT_at hE.rd hi
  exact ⟨b, off, F1, a1, c1, ha, hE.nf b hb, ⟨hr, fun x hx => hE.nf x (hF x hx), hE.h5, hE.h6, hE.n5, hE.n6⟩, hc⟩

/-- The builder's own head, and the row's address and room. -/
abbrev PX (bo : Nat) : Type := { x : Value × Option Addr × Nat // x.1 = .pointer none ∨ x.1 = pp bo }
def PutPost (w : World) (bo : Nat) (v : Value) (l : List UInt8) (e : Ending) (w' : World) : Prop :=
  ∃ x : PX bo, e = .returned (.tuple #[]) ∧ St w (bo :: ob v) [pt bo [x.1.1, .slice x.1.2.1 l.length x.1.2.2] 115, rowc (.slice x.1.2.1 l.length x.1.2.2) l.length 5 1 (bcells l)] w'
def PutC (t : Tree) : Prop := ∀ G a c q ba bc l l2 bo bp bk w, l2 = l ++ Fm.putS t → PEnv w (bo :: ob (.slice ba (List.length l) bc)) bo bp bk t G a c → Fm.notOk t = true → (q = .pointer none ∨ q = pp bo) → List.length l + (Fm.putS t).length ≤ 70368744177664 →
  St w (bo :: ob (.slice ba l.length bc)) (bld bo q (.slice ba l.length bc) l) w → Calls Try.prog 65 [tv t a c, pp bo, pp bk].toArray w (PutPost w bo (.slice ba l.length bc) l2)
def KidC (t : Tree) : Prop := ∀ G a c q ba bc l l2 bs sa sc bo bp bk w, l2 = l ++ Fm.kidS t bs → PEnv w (bo :: ob (.slice ba (List.length l) bc)) bo bp bk t G a c → Bare w (bo :: ob (.slice ba l.length bc)) sa bs → List.length bs ≤ 1000 → Fm.notOk t = true → (q = .pointer none ∨ q = pp bo) →
  List.length l + (Fm.kidS t bs).length ≤ 70368744177664 → St w (bo :: ob (.slice ba l.length bc)) (bld bo q (.slice ba l.length bc) l) w →
  Calls Try.prog 62 [tv t a c, .slice sa bs.length sc, pp bp, pp bo].toArray w (PutPost w bo (.slice ba l.length bc) l2)
theorem WriteString_e (b : Nat) (q v : Value) (l s l2 : List UInt8) (n : Nat) (hl2 : l2 = l ++ s) (hq : q = .pointer none ∨ q = pp b) (hb : l.length + s.length ≤ 140737488355328) (hn : n = s.length) (w : World) (hS0 : St w (b :: ob v) (bld b q v l) w) :
    Calls Try.prog 64 [pp b, .string (str s)].toArray w fun e w' => ∃ x : Option Addr × Nat, e = .returned (.tuple #[.int .i64 (n : Int), .nilIface]) ∧ St w (b :: ob v) (bld b (pp b) (.slice x.1 l2.length x.2) l2) w' := by
  subst hl2; subst hn
  exact WriteString_c b q v l s hq hb w hS0
theorem Bare.of_new {w0 w : World} {O : List Nat} {C1 : List Chunk} {b g k : Nat} {q v : Value} {n : Nat} {xs : List Value} {bs : List Int} {sa : Option Addr} (hS : St w0 O (pt b [q, v] 115 :: rowc v n 5 1 xs :: C1) w) (hm : pt g (bs.map (Value.int .u8)) 5 ∈ C1)
    (hs : sa = some ⟨g, 0, none⟩ ∨ k = 0) : Bare w (b :: ob v) sa (bs.take k) := by
  intro i u hu
  rcases hs with hs | hs
  · refine ⟨g, 0, hs, fun hk => ?_, ?_⟩
    · obtain ⟨ch, h1, h2⟩ := bld_fp2 (b := b) (q := q) (v := v) (n := n) (xs := xs) g hk
      have hd := List.pairwise_append.1 (show ([pt b [q, v] 115, rowc v n 5 1 xs] ++ C1).Pairwise _ from hS.disj)
      exact hd.2.2 ch h1 _ hm g h2 rfl
    · rw [Nat.zero_add]
      refine hS.cell (cs := bs.map (Value.int .u8)) (e := 5) (List.mem_cons_of_mem _ (List.mem_cons_of_mem _ hm)) ?_
      have : bs[i]? = some u := by
        rw [List.getElem?_take] at hu
        split at hu
        · exact hu
        · cases hu
      simp [this]
  · subst hs
    simp at hu
theorem putK_drop {op : Int} {i : Nat} {ts : List Tree} {k : Tree} (h : ts[i]? = some k) :
    Fm.putK op (i : Int) (ts.drop i) = (if (0 : Int) < (i : Int) then [32] ++ Fm.signS op (i : Int) ++ [32] else []) ++ Fm.kidS k (Fm.bareL.take (Fm.bareN op (i : Int))) ++ Fm.putK op ((i + 1 : Nat) : Int) (ts.drop (i + 1)) := by
  obtain ⟨hi, he⟩ := List.getElem?_eq_some_iff.1 h
  rw [List.drop_eq_getElem_cons hi, he]
  simp only [Fm.putK, Fm.kidS]
  rfl
theorem notOk_kid {t k : Tree} {i : Nat} (h : Fm.notOk t = true) (hi : t.kids[i]? = some k) : Fm.notOk k = true := by
  obtain ⟨op, name, kids⟩ := t
  simp only [Fm.notOk, Bool.and_eq_true] at h
  have : ∀ (ts : List Tree) (i : Nat), Fm.notOkL ts = true → ts[i]? = some k → Fm.notOk k = true := by
    intro ts
    induction ts with
    | nil => intro i _ hi; simp at hi
    | cons a r ih =>
      intro i h hi
      simp only [Fm.notOkL, Bool.and_eq_true] at h
      cases i with
      | zero => simp at hi; subst hi; exact h.1
      | succ i => exact ih i h.2 (by simpa using hi)
  exact this kids i h.2 hi
end Go.Proofs.Ytkgllhkhdjodeaa

namespace Go.Proofs.Ytkgllhkhdjodeaa
open Go Go.Eng Go.Proofs
theorem kid_c (t : Tree) (hk : PutC t) : KidC t := by
  intro G a c q ba bc l l2 bs sa sc bo bp bk w hl2 hE hbare hbs hn hq hlen hS0
  refine enter Try.func62 rfl Try.ntmps62 rfl (C := [pt bo [q, .slice ba l.length bc] 115, rowc (.slice ba l.length bc) l.length 5 1 (bcells l)]) hS0 ?_
  refine WC.seq ?_
  refine WC.region ?_
  refine WL.step ?_
  refine WL.boxN rfl rfl (fun b4 => ?_)
  refine WL.nil ?_
  refine WQ.then_normal ?_
  refine WC.seq ?_
  refine WC.seq ?_
  refine WC.region ?_
  refine WL.step ?_
  refine WL.move rfl rfl ?_
  refine WL.step ?_
  refine WL.fieldAddr0 F.fld74_0 rfl rfl ?_
  refine WL.step ?_
  refine WL.loadP F.one5 rfl rfl (by repeat (first | exact List.Mem.head _ | apply List.Mem.tail)) rfl ?_
  refine WL.step ?_
  refine WL.callV F.fun63 rfl rfl (fun w hS => containsU_c bs sa sc t.op hbs w (fun i u hu => ?_)) ?_
  · obtain ⟨b, off, h1, h2, h3⟩ := hbare i u hu
    exact ⟨b, off, h1, by simp, hS.oldc h3 h2⟩
  refine WL.step ?_
  refine WL.move rfl rfl ?_
  refine WA.splitB (i := 10) rfl (fun h10 => ?_) (fun h10 => ?_)
  · skip
    have hks : Fm.kidS t bs = Fm.putS t := by unfold Fm.kidS; rw [if_pos]; rw [h10]; rfl
    refine WL.step (WL.guardF rfl rfl rfl rfl rfl rfl ?_)
    refine WL.step (WL.guardF rfl rfl rfl rfl rfl rfl ?_)
    refine WL.step (WL.guardF rfl rfl rfl rfl rfl rfl ?_)
    refine WL.step ?_
    refine WL.pickT rfl rfl rfl ?_
    refine WL.nil ?_
    refine WQ.then_normal ?_
    refine WC.condT rfl ?_
    refine WC.seq ?_
    refine WC.region ?_
    rw [hks] at hlen hl2
    refine WL.step ?_
    refine WL.load1 F.one116 rfl rfl (fun w hS => hS.oldc (cell_of_heap hE.h5 rfl) hE.n5) ?_
    refine WL.step ?_
    refine WL.loadW F.agg74 rfl rfl (by repeat (first | exact List.Mem.head _ | apply List.Mem.tail)) rfl ?_
    refine WL.step ?_
    refine WL.callFB (β := PX bo) (res := fun _ => .tuple #[]) (c1 := fun x => pt bo [x.1.1, .slice x.1.2.1 l2.length x.1.2.2] 115) (c2 := fun x => rowc (.slice x.1.2.1 l2.length x.1.2.2) l2.length 5 1 (bcells l2)) (q := q) (v := .slice ba l.length bc) (l := l) (b := bo) (us := []) (cap := [pp bo, pp bk]) F.fun65 rfl rfl rfl (by repeat (first | exact Rem.here | apply Rem.there)) (by repeat (first | exact Rem.here | apply Rem.there)) (fun w hS hS2 => hk G a c q ba bc l l2 bo bp bk w hl2 (hE.nextB hS) hn hq hlen hS2) (fun x17 => ?_)
    refine WL.nil ?_
    refine WQ.then_normal ?_
    refine WC.ret ?_
    refine WQ.then_ret ?_
    refine WQ.ret (rs := []) rfl .nil (fun w hS => ?_)
    have h2 := ((St.pick (St.pick hS (c := rowc (.slice x17.1.2.1 l2.length x17.1.2.2) l2.length 5 1 (bcells l2)) (by repeat (first | exact Rem.here | apply Rem.there))) (c := pt bo [x17.1.1, .slice x17.1.2.1 l2.length x17.1.2.2] 115) (by repeat (first | exact Rem.here | apply Rem.there)))).two2
    skip
    exact ⟨x17, rfl, h2⟩
  · skip
    refine WL.step (WL.guardT rfl rfl rfl ?_)
    refine WL.fieldAddr0 F.fld74_0 rfl rfl ?_
    refine WL.step (WL.guardT rfl rfl rfl ?_)
    refine WL.loadP F.one5 rfl rfl (by repeat (first | exact List.Mem.head _ | apply List.Mem.tail)) rfl ?_
    refine WL.step (WL.guardT rfl rfl rfl ?_)
    refine WL.leI rfl rfl rfl ?_
    refine WL.step ?_
    refine WL.pickF rfl rfl rfl ?_
    refine WL.nil ?_
    refine WQ.then_normal ?_
    refine WC.cond rfl (fun h14 => ?_) (fun h14 => ?_)
    · skip
      have hks : Fm.kidS t bs = Fm.putS t := by unfold Fm.kidS; rw [if_pos]; first | (rw [h10]; rfl) | (rw [h14]; simp)
      refine WC.seq ?_
      refine WC.region ?_
      rw [hks] at hlen hl2
      refine WL.step ?_
      refine WL.load1 F.one116 rfl rfl (fun w hS => hS.oldc (cell_of_heap hE.h5 rfl) hE.n5) ?_
      refine WL.step ?_
      refine WL.loadW F.agg74 rfl rfl (by repeat (first | exact List.Mem.head _ | apply List.Mem.tail)) rfl ?_
      refine WL.step ?_
      refine WL.callFB (β := PX bo) (res := fun _ => .tuple #[]) (c1 := fun x => pt bo [x.1.1, .slice x.1.2.1 l2.length x.1.2.2] 115) (c2 := fun x => rowc (.slice x.1.2.1 l2.length x.1.2.2) l2.length 5 1 (bcells l2)) (q := q) (v := .slice ba l.length bc) (l := l) (b := bo) (us := []) (cap := [pp bo, pp bk]) F.fun65 rfl rfl rfl (by repeat (first | exact Rem.here | apply Rem.there)) (by repeat (first | exact Rem.here | apply Rem.there)) (fun w hS hS2 => hk G a c q ba bc l l2 bo bp bk w hl2 (hE.nextB hS) hn hq hlen hS2) (fun x17 => ?_)
      refine WL.nil ?_
      refine WQ.then_normal ?_
      refine WC.ret ?_
      refine WQ.then_ret ?_
      refine WQ.ret (rs := []) rfl .nil (fun w hS => ?_)
      have h2 := ((St.pick (St.pick hS (c := rowc (.slice x17.1.2.1 l2.length x17.1.2.2) l2.length 5 1 (bcells l2)) (by repeat (first | exact Rem.here | apply Rem.there))) (c := pt bo [x17.1.1, .slice x17.1.2.1 l2.length x17.1.2.2] 115) (by repeat (first | exact Rem.here | apply Rem.there)))).two2
      skip
      exact ⟨x17, rfl, h2⟩
    · skip
      have hks : Fm.kidS t bs = [40] ++ Fm.putS t ++ [41] := by unfold Fm.kidS; rw [if_neg]; rw [h10, h14]; simp
      rw [hks] at hlen hl2
      obtain ⟨la, hla⟩ : ∃ l2 : List UInt8, l2 = l ++ [40] := ⟨_, rfl⟩
      obtain ⟨lb, hlb⟩ : ∃ l2 : List UInt8, l2 = la ++ Fm.putS t := ⟨_, rfl⟩
      have hl3 : l2 = lb ++ [41] := by rw [hl2, hlb, hla]; simp [List.append_assoc]
      refine WC.skip ?_
      refine WQ.then_normal ?_
      refine WC.seq ?_
      refine WC.region ?_
      refine WL.step ?_
      refine WL.callB (β := Option Addr × Nat) (res := fun _ => .tuple #[.int .i64 (List.length [40] : Nat), .nilIface]) (c1 := fun x => pt bo [pp bo, .slice x.1 la.length x.2] 115) (c2 := fun x => rowc (.slice x.1 la.length x.2) la.length 5 1 (bcells la)) (q := q) (v := .slice ba l.length bc) (l := l) (b := bo) F.fun64 rfl rfl (by repeat (first | exact Rem.here | apply Rem.there)) (by repeat (first | exact Rem.here | apply Rem.there)) (fun w hS hS2 => WriteString_e bo _ _ l [40] la _ hla (hq) (by simp only [hla, List.length_append, List.length_cons, List.length_nil] at hlen ⊢; omega) rfl w hS2) (fun x18 => ?_)
      refine WL.nil ?_
      refine WQ.then_normal ?_
      refine WC.seq ?_
      refine WC.region ?_
      refine WL.step ?_
      refine WL.load1 F.one116 rfl rfl (fun w hS => hS.oldc (cell_of_heap hE.h5 rfl) hE.n5) ?_
      refine WL.step ?_
      refine WL.loadW F.agg74 rfl rfl (by repeat (first | exact List.Mem.head _ | apply List.Mem.tail)) rfl ?_
      refine WL.step ?_
      refine WL.callFB (β := PX bo) (res := fun _ => .tuple #[]) (c1 := fun x => pt bo [x.1.1, .slice x.1.2.1 lb.length x.1.2.2] 115) (c2 := fun x => rowc (.slice x.1.2.1 lb.length x.1.2.2) lb.length 5 1 (bcells lb)) (q := (pp bo)) (v := .slice x18.1 la.length x18.2) (l := la) (b := bo) (us := []) (cap := [pp bo, pp bk]) F.fun65 rfl rfl rfl (by repeat (first | exact Rem.here | apply Rem.there)) (by repeat (first | exact Rem.here | apply Rem.there)) (fun w hS hS2 => hk G a c (pp bo) x18.1 x18.2 la lb bo bp bk w hlb (hE.nextB hS) hn (.inr rfl) (by simp only [hla, List.length_append, List.length_cons, List.length_nil] at hlen ⊢; omega) hS2) (fun x21 => ?_)
      refine WL.nil ?_
      refine WQ.then_normal ?_
      refine WC.region ?_
      refine WL.step ?_
      refine WL.callB (β := Option Addr × Nat) (res := fun _ => .tuple #[.int .i64 (List.length [41] : Nat), .nilIface]) (c1 := fun x => pt bo [pp bo, .slice x.1 l2.length x.2] 115) (c2 := fun x => rowc (.slice x.1 l2.length x.2) l2.length 5 1 (bcells l2)) (q := x21.1.1) (v := .slice x21.1.2.1 lb.length x21.1.2.2) (l := lb) (b := bo) F.fun64 rfl rfl (by repeat (first | exact Rem.here | apply Rem.there)) (by repeat (first | exact Rem.here | apply Rem.there)) (fun w hS hS2 => WriteString_e bo _ _ lb [41] l2 _ hl3 (x21.2) (by simp only [hlb, hla, List.length_append, List.length_cons, List.length_nil] at hlen ⊢; omega) rfl w hS2) (fun x22 => ?_)
      refine WL.nil ?_
      refine WQ.fin (rs := []) rfl .nil (fun w hS => ?_)
      have h2 := ((St.pick (St.pick hS (c := rowc (.slice x22.1 l2.length x22.2) l2.length 5 1 (bcells l2)) (by repeat (first | exact Rem.here | apply Rem.there))) (c := pt bo [pp bo, .slice x22.1 l2.length x22.2] 115) (by repeat (first | exact Rem.here | apply Rem.there)))).two2
      exact ⟨⟨(pp bo, x22.1, x22.2), .inr rfl⟩, rfl, h2⟩

theorem putS_mk (t : Tree) : Fm.putS t = if t.op = 1 then [48] else if t.op = 2 then [49] else if t.op = 3 then t.name else if t.op = 4 then [33] ++ Fm.putN t.kids else Fm.putK t.op 0 t.kids := by
  obtain ⟨op, name, kids⟩ := t
  simp only [Fm.putS, Tree.op, Tree.name, Tree.kids]
  rfl
theorem not_kid {t : Tree} (h : Fm.notOk t = true) (h4 : t.op = 4) : ∃ k, t.kids[0]? = some k := by
  obtain ⟨op, name, kids⟩ := t
  have : op = 4 := h4
  subst this
  cases kids with
  | nil => simp [Fm.notOk] at h
  | cons k r => exact ⟨k, rfl⟩
theorem putN_kid {t k : Tree} (h : t.kids[0]? = some k) : Fm.putN t.kids = Fm.kidS k [] := by
  obtain ⟨op, name, kids⟩ := t
  cases kids with
  | nil => simp [Tree.kids] at h
  | cons k2 r =>
    have : k2 = k := by simpa [Tree.kids] using h
    subst this
    simp [Fm.putN, Fm.kidS, Tree.kids]
structure PG where
  i : Nat
  q : Value
  ba : Option Addr
  bc : Nat
  lc : List UInt8

theorem put_step (t : Tree) (ih : ∀ k ∈ t.kids, PutC k) : PutC t := by
  intro G a c q ba bc l l2 bo bp bk w hl2 hE hn hq hlen hS0
  refine enter Try.func65 rfl Try.ntmps65 rfl (C := [pt bo [q, .slice ba l.length bc] 115, rowc (.slice ba l.length bc) l.length 5 1 (bcells l)]) hS0 ?_
  refine WC.seq ?_
  refine WC.region ?_
  refine WL.step ?_
  refine WL.boxN rfl rfl (fun b3 => ?_)
  refine WL.nil ?_
  refine WQ.then_normal ?_
  refine WC.seq ?_
  refine WC.region ?_
  refine WL.step ?_
  refine WL.fieldAddr0 F.fld74_0 rfl rfl ?_
  refine WL.step ?_
  refine WL.loadP F.one5 rfl rfl (by repeat (first | exact List.Mem.head _ | apply List.Mem.tail)) rfl ?_
  refine WL.nil ?_
  refine WQ.then_normal ?_
  refine WC.block ?_
  refine WC.seq ?_
  refine WC.region ?_
  refine WL.step ?_
  refine WL.eqI rfl rfl rfl ?_
  refine WL.step ?_
  refine WL.assign rfl rfl ?_
  refine WL.nil ?_
  refine WQ.then_normal ?_
  refine WC.cond rfl (fun h33 => ?_) (fun h33 => ?_)
  · skip
    have h1 : t.op = 1 := by simpa using h33
    rw [show Fm.putS t = [48] by rw [putS_mk, if_pos h1]] at hl2 hlen
    refine WC.region ?_
    refine WL.step ?_
    refine WL.callB (β := Option Addr × Nat) (res := fun _ => .tuple #[.int .i64 (List.length [48] : Nat), .nilIface]) (c1 := fun x => pt bo [pp bo, .slice x.1 l2.length x.2] 115) (c2 := fun x => rowc (.slice x.1 l2.length x.2) l2.length 5 1 (bcells l2)) (q := q) (v := .slice ba l.length bc) (l := l) (b := bo) F.fun64 rfl rfl (by repeat (first | exact Rem.here | apply Rem.there)) (by repeat (first | exact Rem.here | apply Rem.there)) (fun w hS hS2 => WriteString_e bo _ _ l [48] l2 _ hl2 (hq) (by simp only [List.length_append, List.length_cons, List.length_nil] at hlen ⊢; omega) rfl w hS2) (fun x35 => ?_)
    refine WL.nil ?_
    refine WQ.block_normal ?_
    refine WQ.fin (rs := []) rfl .nil (fun w hS => ?_)
    have h2 := ((St.pick (St.pick hS (c := rowc (.slice x35.1 l2.length x35.2) l2.length 5 1 (bcells l2)) (by repeat (first | exact Rem.here | apply Rem.there))) (c := pt bo [pp bo, .slice x35.1 l2.length x35.2] 115) (by repeat (first | exact Rem.here | apply Rem.there)))).two2
    exact ⟨⟨(pp bo, x35.1, x35.2), .inr rfl⟩, rfl, h2⟩
  · skip
    have h1 : t.op ≠ 1 := by simpa using h33
    refine WC.seq ?_
    refine WC.region ?_
    refine WL.step ?_
    refine WL.eqI rfl rfl rfl ?_
    refine WL.step ?_
    refine WL.assign rfl rfl ?_
    refine WL.nil ?_
    refine WQ.then_normal ?_
    refine WC.cond rfl (fun h36 => ?_) (fun h36 => ?_)
    · skip
      have h2 : t.op = 2 := by simpa using h36
      rw [show Fm.putS t = [49] by rw [putS_mk, if_neg h1, if_pos h2]] at hl2 hlen
      refine WC.region ?_
      refine WL.step ?_
      refine WL.callB (β := Option Addr × Nat) (res := fun _ => .tuple #[.int .i64 (List.length [49] : Nat), .nilIface]) (c1 := fun x => pt bo [pp bo, .slice x.1 l2.length x.2] 115) (c2 := fun x => rowc (.slice x.1 l2.length x.2) l2.length 5 1 (bcells l2)) (q := q) (v := .slice ba l.length bc) (l := l) (b := bo) F.fun64 rfl rfl (by repeat (first | exact Rem.here | apply Rem.there)) (by repeat (first | exact Rem.here | apply Rem.there)) (fun w hS hS2 => WriteString_e bo _ _ l [49] l2 _ hl2 (hq) (by simp only [List.length_append, List.length_cons, List.length_nil] at hlen ⊢; omega) rfl w hS2) (fun x35 => ?_)
      refine WL.nil ?_
      refine WQ.block_normal ?_
      refine WQ.fin (rs := []) rfl .nil (fun w hS => ?_)
      have h2 := ((St.pick (St.pick hS (c := rowc (.slice x35.1 l2.length x35.2) l2.length 5 1 (bcells l2)) (by repeat (first | exact Rem.here | apply Rem.there))) (c := pt bo [pp bo, .slice x35.1 l2.length x35.2] 115) (by repeat (first | exact Rem.here | apply Rem.there)))).two2
      exact ⟨⟨(pp bo, x35.1, x35.2), .inr rfl⟩, rfl, h2⟩
    · skip
      have h2 : t.op ≠ 2 := by simpa using h36
      refine WC.seq ?_
      refine WC.region ?_
      refine WL.step ?_
      refine WL.eqI rfl rfl rfl ?_
      refine WL.step ?_
      refine WL.assign rfl rfl ?_
      refine WL.nil ?_
      refine WQ.then_normal ?_
      refine WC.cond rfl (fun h39 => ?_) (fun h39 => ?_)
      · skip
        have h3 : t.op = 3 := by simpa using h39
        rw [show Fm.putS t = t.name by rw [putS_mk, if_neg h1, if_neg h2, if_pos h3]] at hl2 hlen
        refine WC.region ?_
        refine WL.step ?_
        refine WL.fieldAddr0 F.fld74_1 rfl rfl ?_
        refine WL.step ?_
        refine WL.loadP F.one9 rfl rfl (by repeat (first | exact List.Mem.head _ | apply List.Mem.tail)) rfl ?_
        refine WL.step ?_
        refine WL.callB (β := Option Addr × Nat) (res := fun _ => .tuple #[.int .i64 (List.length t.name : Nat), .nilIface]) (c1 := fun x => pt bo [pp bo, .slice x.1 l2.length x.2] 115) (c2 := fun x => rowc (.slice x.1 l2.length x.2) l2.length 5 1 (bcells l2)) (q := q) (v := .slice ba l.length bc) (l := l) (b := bo) F.fun64 rfl rfl (by repeat (first | exact Rem.here | apply Rem.there)) (by repeat (first | exact Rem.here | apply Rem.there)) (fun w hS hS2 => WriteString_e bo _ _ l t.name l2 _ hl2 (hq) (by omega) rfl w hS2) (fun x35 => ?_)
        refine WL.nil ?_
        refine WQ.block_normal ?_
        refine WQ.fin (rs := []) rfl .nil (fun w hS => ?_)
        have h2 := ((St.pick (St.pick hS (c := rowc (.slice x35.1 l2.length x35.2) l2.length 5 1 (bcells l2)) (by repeat (first | exact Rem.here | apply Rem.there))) (c := pt bo [pp bo, .slice x35.1 l2.length x35.2] 115) (by repeat (first | exact Rem.here | apply Rem.there)))).two2
        exact ⟨⟨(pp bo, x35.1, x35.2), .inr rfl⟩, rfl, h2⟩
      · skip
        have h3 : t.op ≠ 3 := by simpa using h39
        refine WC.seq ?_
        refine WC.region ?_
        refine WL.step ?_
        refine WL.eqI rfl rfl rfl ?_
        refine WL.step ?_
        refine WL.assign rfl rfl ?_
        refine WL.nil ?_
        refine WQ.then_normal ?_
        refine WC.cond rfl (fun h44 => ?_) (fun h44 => ?_)
        · skip
          have h4 : t.op = 4 := by simpa using h44
          obtain ⟨k, hk⟩ := not_kid hn h4
          rw [show Fm.putS t = [33] ++ Fm.kidS k [] by rw [putS_mk, if_neg h1, if_neg h2, if_neg h3, if_pos h4, putN_kid hk]] at hl2 hlen
          obtain ⟨b, off, F1, a1, c1, rfl, hbO, hEk, hcells⟩ := hE.kid hk
          obtain ⟨la, hla⟩ : ∃ l2 : List UInt8, l2 = l ++ [33] := ⟨_, rfl⟩
          have hle : l2 = la ++ Fm.kidS k [] := by rw [hl2, hla, List.append_assoc]
          have hlk : 0 < t.kids.length := (List.getElem?_eq_some_iff.1 hk).1
          have hKid := kid_c k (ih k (List.mem_of_getElem? hk))
          refine WC.seq ?_
          refine WC.region ?_
          refine WL.step ?_
          refine WL.callB (β := Option Addr × Nat) (res := fun _ => .tuple #[.int .i64 (List.length [33] : Nat), .nilIface]) (c1 := fun x => pt bo [pp bo, .slice x.1 la.length x.2] 115) (c2 := fun x => rowc (.slice x.1 la.length x.2) la.length 5 1 (bcells la)) (q := q) (v := .slice ba l.length bc) (l := l) (b := bo) F.fun64 rfl rfl (by repeat (first | exact Rem.here | apply Rem.there)) (by repeat (first | exact Rem.here | apply Rem.there)) (fun w hS hS2 => WriteString_e bo _ _ l [33] la _ hla (hq) (by simp only [hla, List.length_append, List.length_cons, List.length_nil] at hlen ⊢; omega) rfl w hS2) (fun x46 => ?_)
          refine WL.nil ?_
          refine WQ.then_normal ?_
          refine WC.draws [([5], fun w => w.cell? ⟨bk, 0, none⟩ = some (Value.func (.func 62) [].toArray [pp bp, pp bo].toArray)), ([5], fun w => w.cell? ⟨b3, 2, none⟩ = some (.slice (some ⟨b, off, none⟩) t.kids.length c)), ([5], fun w => ∀ j v, [Value.int .u8 k.op, .string (str k.name), .slice a1 k.kids.length c1][j]? = some v → w.cell? ⟨b, off + 0 * 3 + j, none⟩ = some v)] (by kernel_rfl) (fun w hS => facts_cons (hS.oldc (cell_of_heap hE.h6 rfl) hE.n6) (facts_cons (hS.cell (by repeat (first | exact List.Mem.head _ | apply List.Mem.tail)) rfl) (facts_cons (fun j v hj => hS.oldc (hcells j v hj) hbO) (facts_nil)))) ?_
          refine WD.take (i := 0) rfl rfl rfl rfl (by kernel_rfl) (by kernel_rfl) (by kernel_rfl) (fun _ _ _ h => h) (by kernel_rfl) (need_at 0 6 rfl (by kernel_rfl)) (Yl.load1 F.one122 rfl) ?_
          refine WD.take (i := 1) rfl rfl rfl rfl (by kernel_rfl) (by kernel_rfl) (by kernel_rfl) (fun _ _ _ h => h) (by kernel_rfl) need_none (Yl.fieldAddr0 F.fld74_2 rfl) ?_
          refine WD.take (i := 2) rfl rfl rfl rfl (by kernel_rfl) (by kernel_rfl) (by kernel_rfl) (fun _ _ _ h => h) (by kernel_rfl) (need_at 1 6 rfl (by kernel_rfl)) (Yl.load1 F.one72 rfl) ?_
          refine WD.take (i := 3) rfl rfl rfl rfl (by kernel_rfl) (by kernel_rfl) (by kernel_rfl) (fun _ _ _ h => h) (by kernel_rfl) need_none (Yl.indexAddr (i := 0) F.sl72 rfl rfl hlk) ?_
          refine WD.take (i := 4) rfl rfl rfl rfl (by kernel_rfl) (by kernel_rfl) (by kernel_rfl) (fun _ _ _ h => h) (by kernel_rfl) (need_at 2 6 rfl (by kernel_rfl)) (Yl.loadN F.agg74 rfl rfl) ?_
          refine WD.one (i := 5) (by kernel_rfl) rfl ?_
          refine WL.callFB (β := PX bo) (res := fun _ => .tuple #[]) (c1 := fun x => pt bo [x.1.1, .slice x.1.2.1 l2.length x.1.2.2] 115) (c2 := fun x => rowc (.slice x.1.2.1 l2.length x.1.2.2) l2.length 5 1 (bcells l2)) (q := (pp bo)) (v := .slice x46.1 la.length x46.2) (l := la) (b := bo) (us := []) (cap := [pp bp, pp bo]) F.fun62 rfl rfl rfl (by repeat (first | exact Rem.here | apply Rem.there)) (by repeat (first | exact Rem.here | apply Rem.there)) (fun w hS hS2 => hKid F1 a1 c1 (pp bo) x46.1 x46.2 la l2 [] none 0 bo bp bk w hle (hEk.nextB hS) (fun i u hu => by simp at hu) (by simp) (notOk_kid hn hk) (.inr rfl) (by simp only [hla, List.length_append, List.length_cons, List.length_nil] at hlen ⊢; omega) hS2) (fun x52 => ?_)
          refine WD.on (closed_of (by kernel_rfl)) (fun w hS => Sx.gone rfl (Sx.gone rfl (Sx.gone rfl (Sx.none)))) ?_
          refine WD.done (by kernel_rfl) ?_
          refine WQ.block_normal ?_
          refine WQ.fin (rs := []) rfl .nil (fun w hS => ?_)
          have h2 := ((St.pick (St.pick hS (c := rowc (.slice x52.1.2.1 l2.length x52.1.2.2) l2.length 5 1 (bcells l2)) (by repeat (first | exact Rem.here | apply Rem.there))) (c := pt bo [x52.1.1, .slice x52.1.2.1 l2.length x52.1.2.2] 115) (by repeat (first | exact Rem.here | apply Rem.there)))).two2
          skip
          exact ⟨x52, rfl, h2⟩
        · skip
          have h4 : t.op ≠ 4 := by simpa using h44
          rw [show Fm.putS t = Fm.putK t.op 0 t.kids by rw [putS_mk, if_neg h1, if_neg h2, if_neg h3, if_neg h4]] at hl2 hlen
          refine WC.seq ?_
          refine WC.region ?_
          refine WL.step ?_
          refine WL.fieldAddr0 F.fld74_2 rfl rfl ?_
          refine WL.step ?_
          refine WL.loadP F.one72 rfl rfl (by repeat (first | exact List.Mem.head _ | apply List.Mem.tail)) rfl ?_
          refine WL.step ?_
          refine WL.lenSl F.und72 rfl rfl ?_
          refine WL.step ?_
          refine WL.move rfl rfl ?_
          refine WL.nil ?_
          refine WQ.then_normal ?_
          refine WC.block ?_
          refine WC.chunks (fun w hS => (St.pick (St.pick hS (c := rowc (.slice ba l.length bc) l.length 5 1 (bcells l)) (by repeat (first | exact Rem.here | apply Rem.there))) (c := pt bo [q, .slice ba l.length bc] 115) (by repeat (first | exact Rem.here | apply Rem.there)))) ?_
          refine WC.loop (α := PG) (fun g => g.i ≤ t.kids.length ∧ g.i ≤ g.lc.length + 1 ∧ (g.q = .pointer none ∨ g.q = pp bo) ∧ g.lc ++ Fm.putK t.op (g.i : Int) (t.kids.drop g.i) = l2) (fun g => [(1, pp bo), (2, pp bk), (3, pp b3), (9, .slice a t.kids.length c), (10, .int .i64 (t.kids.length : Int)), (11, .int .i64 (g.i : Int))]) (fun g => [pt bo [g.q, .slice g.ba g.lc.length g.bc] 115, rowc (.slice g.ba g.lc.length g.bc) g.lc.length 5 1 (bcells g.lc), pt b3 [.int .u8 t.op, .string (str t.name), .slice a t.kids.length c] 74]) (fun g => t.kids.length - g.i) (⟨0, q, ba, bc, l⟩) ?_ ?_ ?_ ?_
          · exact ⟨Nat.zero_le _, Nat.zero_le _, hq, hl2.symm⟩
          · exact ⟨rfl, rfl, rfl, rfl, rfl, rfl, trivial⟩
          · rfl
          rintro ⟨i, q, ba, bc, lc⟩ ⟨hi, hil, hq, hput⟩
          dsimp only at hi hil hq hput
          show WC _ _ _ _ _ _ _ [(1, pp bo), (2, pp bk), (3, pp b3), (9, .slice a t.kids.length c), (10, .int .i64 (t.kids.length : Int)), (11, .int .i64 (i : Int))] [pt bo [q, .slice ba lc.length bc] 115, rowc (.slice ba lc.length bc) lc.length 5 1 (bcells lc), pt b3 [.int .u8 t.op, .string (str t.name), .slice a t.kids.length c] 74]
          refine WC.seq ?_
          refine WC.region ?_
          refine WL.step ?_
          refine WL.ltI rfl rfl rfl ?_
          refine WL.nil ?_
          refine WQ.then_normal ?_
          refine WC.seq ?_
          refine WC.cond rfl (fun h12 => ?_) (fun h12 => ?_)
          · skip
            have hlt : i < t.kids.length := by simpa using h12
            obtain ⟨k, hk⟩ : ∃ k, t.kids[i]? = some k := ⟨_, List.getElem?_eq_getElem hlt⟩
            obtain ⟨b, off, F1, a1, c1, rfl, hbO, hEk, hcells⟩ := hE.kid hk
            have hput2 := hput
            rw [putK_drop hk] at hput2
            have hi46 : i ≤ 70368744177665 := by (have h9 := congrArg List.length hput; simp only [hl2, List.length_append] at h9; omega)
            have hKid := kid_c k (ih k (List.mem_of_getElem? hk))
            refine WC.skip ?_
            refine WQ.then_normal ?_
            refine WC.seq ?_
            refine WC.block ?_
            refine WC.seq ?_
            refine WC.region ?_
            refine WL.step ?_
            refine WL.move rfl rfl ?_
            refine WL.step ?_
            refine WL.indexAddr F.sl72 rfl rfl rfl hlt ?_
            refine WL.step ?_
            refine WL.loadN F.agg74 rfl rfl (vs := [Value.int .u8 k.op, .string (str k.name), .slice a1 k.kids.length c1]) rfl (fun w hS j v hj => hS.oldc (hcells j v hj) hbO) ?_
            refine WL.step ?_
            refine WL.alloc F.zero74 rfl (fun b5 => ?_)
            refine WL.step ?_
            refine WL.assign rfl rfl ?_
            refine WL.step ?_
            refine WL.storeN F.agg74 rfl rfl rfl (by simp [Value.oneCell']) (by repeat (first | exact Upd.here | apply Upd.there)) (by repeat constructor) ?_
            refine WL.nil ?_
            refine WQ.then_normal ?_
            refine WC.seq ?_
            refine WC.seq ?_
            refine WC.region ?_
            refine WL.step ?_
            refine WL.move rfl rfl ?_
            refine WL.step ?_
            refine WL.gtI rfl rfl rfl ?_
            refine WL.nil ?_
            refine WQ.then_normal ?_
            refine WC.cond rfl (fun h17 => ?_) (fun h17 => ?_)
            · skip
              have hip : (0 : Int) < (i : Int) := by simpa using h17
              rw [if_pos hip] at hput2
              obtain ⟨ld, hld⟩ : ∃ l2 : List UInt8, l2 = lc ++ ([32] ++ Fm.signS t.op (i : Int) ++ [32]) := ⟨_, rfl⟩
              obtain ⟨le, hle⟩ : ∃ l2 : List UInt8, l2 = ld ++ Fm.kidS k (Fm.bareL.take (Fm.bareN t.op (i : Int))) := ⟨_, rfl⟩
              have hput3 : le ++ Fm.putK t.op ((i + 1 : Nat) : Int) (t.kids.drop (i + 1)) = l2 := by rw [← hput2, hle, hld]; simp only [List.append_assoc]
              have hil2 : i + 1 ≤ le.length + 1 := by (rw [hle, hld]; simp only [List.length_append, List.length_cons, List.length_nil]; omega)
              refine WC.region ?_
              refine WL.step ?_
              refine WL.fieldAddr0 F.fld74_0 rfl rfl ?_
              refine WL.step ?_
              refine WL.loadP F.one5 rfl rfl (by repeat (first | exact List.Mem.head _ | apply List.Mem.tail)) rfl ?_
              refine WL.step ?_
              refine WL.move rfl rfl ?_
              refine WL.step ?_
              refine WL.callV F.fun66 rfl rfl (fun w _ => sign_c _ _ w) ?_
              refine WL.step ?_
              refine WL.addS (m := [32]) rfl rfl rfl (by have := Fm.signS_len t.op (i : Int); simp only [List.length_cons, List.length_nil]; omega) ?_
              refine WL.step ?_
              refine WL.addS (n := [32]) rfl rfl rfl (by have := Fm.signS_len t.op (i : Int); simp only [List.length_append, List.length_cons, List.length_nil]; omega) ?_
              refine WL.step ?_
              refine WL.callB (β := Option Addr × Nat) (res := fun _ => .tuple #[.int .i64 (List.length ([32] ++ Fm.signS t.op (i : Int) ++ [32]) : Nat), .nilIface]) (c1 := fun x => pt bo [pp bo, .slice x.1 ld.length x.2] 115) (c2 := fun x => rowc (.slice x.1 ld.length x.2) ld.length 5 1 (bcells ld)) (q := q) (v := .slice ba lc.length bc) (l := lc) (b := bo) F.fun64 rfl rfl (by repeat (first | exact Rem.here | apply Rem.there)) (by repeat (first | exact Rem.here | apply Rem.there)) (fun w hS hS2 => WriteString_e bo _ _ lc ([32] ++ Fm.signS t.op (i : Int) ++ [32]) ld _ hld (hq) (by have h9 := congrArg List.length hput2; simp only [hl2, List.length_append, List.length_cons, List.length_nil] at h9 hlen ⊢; omega) rfl w hS2) (fun x24 => ?_)
              refine WL.nil ?_
              refine WQ.then_normal ?_
              refine WC.draws [([6], fun w => w.cell? ⟨bk, 0, none⟩ = some (Value.func (.func 62) [].toArray [pp bp, pp bo].toArray)), ([6], fun w => ∀ j v, [Value.int .u8 k.op, .string (str k.name), .slice a1 k.kids.length c1][j]? = some v → w.cell? ⟨b5, 0 + j, none⟩ = some v), ([5, 6], fun w => w.cell? ⟨b3, 0, none⟩ = some (.int .u8 t.op))] (by kernel_rfl) (fun w hS => facts_cons (hS.oldc (cell_of_heap hE.h6 rfl) hE.n6) (facts_cons (fun j v hv => by rw [Nat.zero_add]; exact hS.cell (by repeat (first | exact List.Mem.head _ | apply List.Mem.tail)) hv) (facts_cons (hS.cell (by repeat (first | exact List.Mem.head _ | apply List.Mem.tail)) rfl) (facts_nil)))) ?_
              refine WD.take (i := 0) rfl rfl rfl rfl (by kernel_rfl) (by kernel_rfl) (by kernel_rfl) (fun _ _ _ h => h) (by kernel_rfl) (need_at 0 7 rfl (by kernel_rfl)) (Yl.load1 F.one122 rfl) ?_
              refine WD.take (i := 1) rfl rfl rfl rfl (by kernel_rfl) (by kernel_rfl) (by kernel_rfl) (fun _ _ _ h => h) (by kernel_rfl) (need_at 1 7 rfl (by kernel_rfl)) (Yl.loadN F.agg74 rfl rfl) ?_
              refine WD.take (i := 2) rfl rfl rfl rfl (by kernel_rfl) (by kernel_rfl) (by kernel_rfl) (fun _ _ _ h => h) (by kernel_rfl) need_none (Yl.fieldAddr0 F.fld74_0 rfl) ?_
              refine WD.take (i := 3) rfl rfl rfl rfl (by kernel_rfl) (by kernel_rfl) (by kernel_rfl) (fun _ _ _ h => h) (by kernel_rfl) (need_at 2 7 rfl (by kernel_rfl)) (Yl.load1 F.one5 rfl) ?_
              refine WD.take (i := 4) rfl rfl rfl rfl (by kernel_rfl) (by kernel_rfl) (by kernel_rfl) (fun _ _ _ h => h) (by kernel_rfl) need_none (Yl.move rfl) ?_
              refine WD.one (i := 5) (by kernel_rfl) rfl ?_
              refine WL.callC (β := { x : Nat × Option Addr × Nat // x.2.1 = some ⟨x.1, 0, none⟩ ∨ Fm.bareN t.op (i : Int) = 0 }) (res := fun x => .slice x.1.2.1 (Fm.bareL.take (Fm.bareN t.op (i : Int))).length x.1.2.2) (cs := fun x => [pt x.1.1 (Fm.bareL.map (Value.int .u8)) 5]) (Cs := []) (O' := []) F.fun67 (fun d h => by cases h; rfl) rfl (List.Perm.refl _) (by simp) (by simp) (fun w hS _ => (bare_c t.op (i : Int) w).mono (fun e w2 h => ?_)) (fun x30 => ?_)
              · obtain ⟨x, h1, h2, h3⟩ := h
                exact ⟨⟨x, h1⟩, h2, h3⟩
              refine WD.on (closed_of (by kernel_rfl)) (fun w hS => Sx.keep (hS.oldc (cell_of_heap hE.h6 rfl) hE.n6) (Sx.keep (fun j v hv => by rw [Nat.zero_add]; exact hS.cell (by repeat (first | exact List.Mem.head _ | apply List.Mem.tail)) hv) (Sx.gone rfl (Sx.none)))) ?_
              refine WD.one (i := 6) (by kernel_rfl) rfl ?_
              refine WL.callFB (β := PX bo) (res := fun _ => .tuple #[]) (c1 := fun x => pt bo [x.1.1, .slice x.1.2.1 le.length x.1.2.2] 115) (c2 := fun x => rowc (.slice x.1.2.1 le.length x.1.2.2) le.length 5 1 (bcells le)) (q := (pp bo)) (v := .slice x24.1 ld.length x24.2) (l := ld) (b := bo) (us := []) (cap := [pp bp, pp bo]) F.fun62 rfl rfl rfl (by repeat (first | exact Rem.here | apply Rem.there)) (by repeat (first | exact Rem.here | apply Rem.there)) (fun w hS hS2 => hKid F1 a1 c1 ((pp bo)) (x24.1) (x24.2) ld le (Fm.bareL.take (Fm.bareN t.op (i : Int))) x30.1.2.1 x30.1.2.2 bo bp bk w hle (hEk.nextB hS) (Bare.of_new hS (g := x30.1.1) (by repeat (first | exact List.Mem.head _ | apply List.Mem.tail)) x30.2) (by simp [Fm.bareL]; omega) (notOk_kid hn hk) ((.inr rfl)) (by have h9 := congrArg List.length hput2; simp only [hl2, hld, List.length_append, List.length_cons, List.length_nil] at h9 hlen ⊢; omega) hS2) (fun x31 => ?_)
              refine WD.on (closed_of (by kernel_rfl)) (fun w hS => Sx.gone rfl (Sx.gone rfl (Sx.gone rfl (Sx.none)))) ?_
              refine WD.done (by kernel_rfl) ?_
              refine WQ.block_normal ?_
              refine WQ.then_normal ?_
              refine WC.region ?_
              refine WL.step ?_
              refine WL.add rfl rfl rfl ⟨by omega, by omega⟩ ?_
              refine WL.step ?_
              refine WL.move rfl rfl ?_
              refine WL.nil ?_
              refine WQ.chunks (C' := [pt bo [x31.1.1, .slice x31.1.2.1 le.length x31.1.2.2] 115, rowc (.slice x31.1.2.1 le.length x31.1.2.2) le.length 5 1 (bcells le), pt b3 [.int .u8 t.op, .string (str t.name), .slice (some ⟨b, off, none⟩) t.kids.length c] 74]) (fun w hS => ((St.pick (St.pick (St.pick hS (c := pt b3 [.int .u8 t.op, .string (str t.name), .slice (some ⟨b, off, none⟩) t.kids.length c] 74) (by repeat (first | exact Rem.here | apply Rem.there))) (c := rowc (.slice x31.1.2.1 le.length x31.1.2.2) le.length 5 1 (bcells le)) (by repeat (first | exact Rem.here | apply Rem.there))) (c := pt bo [x31.1.1, .slice x31.1.2.1 le.length x31.1.2.2] 115) (by repeat (first | exact Rem.here | apply Rem.there)))).sublist (List.Sublist.cons_cons _ (List.Sublist.cons_cons _ (List.Sublist.cons_cons _ (List.nil_sublist _))))) ?_
              refine WQ.back (⟨i + 1, x31.1.1, x31.1.2.1, x31.1.2.2, le⟩) ?_ ?_ ?_ ?_
              · exact ⟨by show i + 1 ≤ t.kids.length; omega, hil2, x31.2, hput3⟩
              · (show t.kids.length - (i + 1) < t.kids.length - i; omega)
              · exact ⟨rfl, rfl, rfl, rfl, rfl, rfl, trivial⟩
              · rfl
            · skip
              have hip : ¬ (0 : Int) < (i : Int) := by simpa using h17
              rw [if_neg hip] at hput2
              obtain ⟨le, hle⟩ : ∃ l2 : List UInt8, l2 = lc ++ Fm.kidS k (Fm.bareL.take (Fm.bareN t.op (i : Int))) := ⟨_, rfl⟩
              have hput3 : le ++ Fm.putK t.op ((i + 1 : Nat) : Int) (t.kids.drop (i + 1)) = l2 := by rw [← hput2, hle]; simp only [List.append_assoc, List.nil_append]
              have hil2 : i + 1 ≤ le.length + 1 := by omega
              refine WC.skip ?_
              refine WQ.then_normal ?_
              refine WC.draws [([6], fun w => w.cell? ⟨bk, 0, none⟩ = some (Value.func (.func 62) [].toArray [pp bp, pp bo].toArray)), ([6], fun w => ∀ j v, [Value.int .u8 k.op, .string (str k.name), .slice a1 k.kids.length c1][j]? = some v → w.cell? ⟨b5, 0 + j, none⟩ = some v), ([5, 6], fun w => w.cell? ⟨b3, 0, none⟩ = some (.int .u8 t.op))] (by kernel_rfl) (fun w hS => facts_cons (hS.oldc (cell_of_heap hE.h6 rfl) hE.n6) (facts_cons (fun j v hv => by rw [Nat.zero_add]; exact hS.cell (by repeat (first | exact List.Mem.head _ | apply List.Mem.tail)) hv) (facts_cons (hS.cell (by repeat (first | exact List.Mem.head _ | apply List.Mem.tail)) rfl) (facts_nil)))) ?_
              refine WD.take (i := 0) rfl rfl rfl rfl (by kernel_rfl) (by kernel_rfl) (by kernel_rfl) (fun _ _ _ h => h) (by kernel_rfl) (need_at 0 7 rfl (by kernel_rfl)) (Yl.load1 F.one122 rfl) ?_
              refine WD.take (i := 1) rfl rfl rfl rfl (by kernel_rfl) (by kernel_rfl) (by kernel_rfl) (fun _ _ _ h => h) (by kernel_rfl) (need_at 1 7 rfl (by kernel_rfl)) (Yl.loadN F.agg74 rfl rfl) ?_
              refine WD.take (i := 2) rfl rfl rfl rfl (by kernel_rfl) (by kernel_rfl) (by kernel_rfl) (fun _ _ _ h => h) (by kernel_rfl) need_none (Yl.fieldAddr0 F.fld74_0 rfl) ?_
              refine WD.take (i := 3) rfl rfl rfl rfl (by kernel_rfl) (by kernel_rfl) (by kernel_rfl) (fun _ _ _ h => h) (by kernel_rfl) (need_at 2 7 rfl (by kernel_rfl)) (Yl.load1 F.one5 rfl) ?_
              refine WD.take (i := 4) rfl rfl rfl rfl (by kernel_rfl) (by kernel_rfl) (by kernel_rfl) (fun _ _ _ h => h) (by kernel_rfl) need_none (Yl.move rfl) ?_
              refine WD.one (i := 5) (by kernel_rfl) rfl ?_
              refine WL.callC (β := { x : Nat × Option Addr × Nat // x.2.1 = some ⟨x.1, 0, none⟩ ∨ Fm.bareN t.op (i : Int) = 0 }) (res := fun x => .slice x.1.2.1 (Fm.bareL.take (Fm.bareN t.op (i : Int))).length x.1.2.2) (cs := fun x => [pt x.1.1 (Fm.bareL.map (Value.int .u8)) 5]) (Cs := []) (O' := []) F.fun67 (fun d h => by cases h; rfl) rfl (List.Perm.refl _) (by simp) (by simp) (fun w hS _ => (bare_c t.op (i : Int) w).mono (fun e w2 h => ?_)) (fun x30 => ?_)
              · obtain ⟨x, h1, h2, h3⟩ := h
                exact ⟨⟨x, h1⟩, h2, h3⟩
              refine WD.on (closed_of (by kernel_rfl)) (fun w hS => Sx.keep (hS.oldc (cell_of_heap hE.h6 rfl) hE.n6) (Sx.keep (fun j v hv => by rw [Nat.zero_add]; exact hS.cell (by repeat (first | exact List.Mem.head _ | apply List.Mem.tail)) hv) (Sx.gone rfl (Sx.none)))) ?_
              refine WD.one (i := 6) (by kernel_rfl) rfl ?_
              refine WL.callFB (β := PX bo) (res := fun _ => .tuple #[]) (c1 := fun x => pt bo [x.1.1, .slice x.1.2.1 le.length x.1.2.2] 115) (c2 := fun x => rowc (.slice x.1.2.1 le.length x.1.2.2) le.length 5 1 (bcells le)) (q := q) (v := .slice ba lc.length bc) (l := lc) (b := bo) (us := []) (cap := [pp bp, pp bo]) F.fun62 rfl rfl rfl (by repeat (first | exact Rem.here | apply Rem.there)) (by repeat (first | exact Rem.here | apply Rem.there)) (fun w hS hS2 => hKid F1 a1 c1 (q) (ba) (bc) lc le (Fm.bareL.take (Fm.bareN t.op (i : Int))) x30.1.2.1 x30.1.2.2 bo bp bk w hle (hEk.nextB hS) (Bare.of_new hS (g := x30.1.1) (by repeat (first | exact List.Mem.head _ | apply List.Mem.tail)) x30.2) (by simp [Fm.bareL]; omega) (notOk_kid hn hk) (hq) (by have h9 := congrArg List.length hput2; simp only [hl2, List.length_append, List.length_cons, List.length_nil] at h9 hlen ⊢; omega) hS2) (fun x31 => ?_)
              refine WD.on (closed_of (by kernel_rfl)) (fun w hS => Sx.gone rfl (Sx.gone rfl (Sx.gone rfl (Sx.none)))) ?_
              refine WD.done (by kernel_rfl) ?_
              refine WQ.block_normal ?_
              refine WQ.then_normal ?_
              refine WC.region ?_
              refine WL.step ?_
              refine WL.add rfl rfl rfl ⟨by omega, by omega⟩ ?_
              refine WL.step ?_
              refine WL.move rfl rfl ?_
              refine WL.nil ?_
              refine WQ.chunks (C' := [pt bo [x31.1.1, .slice x31.1.2.1 le.length x31.1.2.2] 115, rowc (.slice x31.1.2.1 le.length x31.1.2.2) le.length 5 1 (bcells le), pt b3 [.int .u8 t.op, .string (str t.name), .slice (some ⟨b, off, none⟩) t.kids.length c] 74]) (fun w hS => ((St.pick (St.pick (St.pick hS (c := pt b3 [.int .u8 t.op, .string (str t.name), .slice (some ⟨b, off, none⟩) t.kids.length c] 74) (by repeat (first | exact Rem.here | apply Rem.there))) (c := rowc (.slice x31.1.2.1 le.length x31.1.2.2) le.length 5 1 (bcells le)) (by repeat (first | exact Rem.here | apply Rem.there))) (c := pt bo [x31.1.1, .slice x31.1.2.1 le.length x31.1.2.2] 115) (by repeat (first | exact Rem.here | apply Rem.there)))).sublist (List.Sublist.cons_cons _ (List.Sublist.cons_cons _ (List.Sublist.cons_cons _ (List.nil_sublist _))))) ?_
              refine WQ.back (⟨i + 1, x31.1.1, x31.1.2.1, x31.1.2.2, le⟩) ?_ ?_ ?_ ?_
              · exact ⟨by show i + 1 ≤ t.kids.length; omega, hil2, x31.2, hput3⟩
              · (show t.kids.length - (i + 1) < t.kids.length - i; omega)
              · exact ⟨rfl, rfl, rfl, rfl, rfl, rfl, trivial⟩
              · rfl
          · skip
            have hie : i = t.kids.length := by simp at h12; omega
            subst hie
            rw [List.drop_length] at hput
            have hlc : lc = l2 := by rw [← hput]; simp [Fm.putK]
            subst hlc
            refine WC.exit ?_
            refine WQ.then_exit ?_
            refine WQ.then_exit ?_
            refine WQ.block_exit ?_
            refine WQ.block_normal ?_
            refine WQ.fin (rs := []) rfl .nil (fun w hS => ?_)
            have h2 := ((St.pick (St.pick hS (c := rowc (.slice ba lc.length bc) lc.length 5 1 (bcells lc)) (by repeat (first | exact Rem.here | apply Rem.there))) (c := pt bo [q, .slice ba lc.length bc] 115) (by repeat (first | exact Rem.here | apply Rem.there)))).two2
            exact ⟨⟨(q, ba, bc), hq⟩, rfl, h2⟩

theorem put_c : ∀ t : Tree, PutC t
  | .mk op name kids => put_step _ (fun k hk => put_c k)
termination_by t => SizeOf.sizeOf t
decreasing_by
  have hk' : k ∈ kids := hk
  have := List.sizeOf_lt_of_mem hk'
  simp only [Tree.mk.sizeOf_spec]
  omega

end Go.Proofs.Ytkgllhkhdjodeaa

namespace Go.Proofs.Ytkgllhkhdjodeaa
open Go Go.Eng Go.Proofs
theorem putS_ne : ∀ {lv : Nat} {t : Tree} {left l : Nat}, Fm.validT lv t left = some l → Fm.putS t ≠ []
  | lv, .mk op name [], left, l, h => by
    simp only [Fm.validT] at h
    split at h
    · cases h
    · rename_i hc
      have hr : Fm.rightB (.mk op name []) = true := by
        cases hh : Fm.rightB (.mk op name []) with
        | true => rfl
        | false => exact absurd (.inr (.inr hh)) hc
      simp only [Fm.putS]
      split
      · simp
      split
      · simp
      split
      · rename_i h3
        have := Fm.rightB_name hr h3
        intro hn
        simp only [Tree.name] at this
        rw [hn] at this
        simp at this
      split
      · simp
      · exfalso
        rename_i h1 h2 h3 h4
        have hb : Fm.kidsBad op 0 = true := by
          simp only [Fm.kidsBad, Fm.kidsOf]
          rw [if_neg (by omega), if_neg (by omega)]
          split
          · rfl
          split
          · rfl
          split <;> rfl
        simp [Fm.rightB, Tree.op, Tree.kids, hb] at hr
  | lv, .mk op name (k :: ks), left, l, h => by
    simp only [Fm.validT] at h
    split at h
    · cases h
    · rename_i hc
      simp only [Fm.validL] at h
      split at h
      · cases h
      · rename_i j hj
        have hk := putS_ne hj
        have hr : Fm.rightB (.mk op name (k :: ks)) = true := by
          cases hh : Fm.rightB (.mk op name (k :: ks)) with
          | true => rfl
          | false => exact absurd (.inr (.inr hh)) hc
        simp only [Fm.putS]
        split
        · simp
        split
        · simp
        split
        · rename_i h3
          have := Fm.rightB_name hr h3
          intro hn
          simp only [Tree.name] at this
          rw [hn] at this
          simp at this
        split
        · simp
        · simp only [Fm.putK]
          intro hn
          have h1 := (List.append_eq_nil_iff.1 (List.append_eq_nil_iff.1 hn).1).2
          revert h1
          split <;> simp [hk]
def printS (t : Tree) : List UInt8 := if Fm.validB t then Fm.putS t else []

theorem Print_c (t : Tree) (G : List Nat) (a : Option Addr) (c : Nat) (w : World) (hr : rdT w t G (tv t a c)) : Pure Try.prog 38 [tv t a c] w (.tuple #[.string (str (printS t)), .int .i64 (if Fm.validB t then 0 else 2)]) := by
  refine enter Try.func38 rfl Try.ntmps38 rfl (St.init _) ?_
  refine WC.seq ?_
  refine WC.region ?_
  refine WL.step ?_
  refine WL.boxN rfl rfl (fun b1 => ?_)
  refine WL.step ?_
  refine WL.assign rfl rfl ?_
  refine WL.step ?_
  refine WL.assign rfl rfl ?_
  refine WL.nil ?_
  refine WQ.then_normal ?_
  refine WC.seq ?_
  refine WC.seq ?_
  refine WC.region ?_
  refine WL.step ?_
  refine WL.loadW F.agg74 rfl rfl (by repeat (first | exact List.Mem.head _ | apply List.Mem.tail)) rfl ?_
  refine WL.step ?_
  refine WL.callV F.fun61 rfl rfl (fun w hS => Valid_c t G a c w (hS.oldT hr (fun k hk => ⟨rdT_lt hr k hk, by simp⟩))) ?_
  refine WL.step ?_
  refine WL.not rfl rfl ?_
  refine WL.nil ?_
  refine WQ.then_normal ?_
  refine WC.cond rfl (fun h9 => ?_) (fun h9 => ?_)
  · skip
    have hv : Fm.validB t = false := by simpa using h9
    refine WC.seq ?_
    refine WC.region ?_
    refine WL.step ?_
    refine WL.assign rfl rfl ?_
    refine WL.step ?_
    refine WL.assign rfl rfl ?_
    refine WL.nil ?_
    refine WQ.then_normal ?_
    refine WC.ret ?_
    refine WQ.then_ret ?_
    refine WQ.ret (rs := [.tmp 2, .tmp 3]) rfl (.tmp rfl (.tmp rfl .nil)) (fun w hS => ⟨?_, hS.drop⟩)
    simp [printS, hv, tup, str]
  · skip
    have hv : Fm.validB t = true := by simpa using h9
    obtain ⟨lf, hlf⟩ : ∃ lf, Fm.validT 64 t 1000 = some lf := Option.isSome_iff_exists.1 hv
    have hlen := Fm.putS_len hlf
    have hne := putS_ne hlf
    have hno := Fm.notOk_valid hlf
    refine WC.skip ?_
    refine WQ.then_normal ?_
    refine WC.seq ?_
    refine WC.region ?_
    refine WL.step ?_
    refine WL.alloc F.zero115 rfl (fun b4 => ?_)
    refine WL.nil ?_
    refine WQ.then_normal ?_
    refine WC.seq ?_
    refine WC.region ?_
    refine WL.step ?_
    refine WL.alloc F.zero116 rfl (fun b5 => ?_)
    refine WL.nil ?_
    refine WQ.then_normal ?_
    refine WC.seq ?_
    refine WC.region ?_
    refine WL.step ?_
    refine WL.makeFunc rfl rfl rfl ?_
    refine WL.step ?_
    refine WL.alloc F.zero122 rfl (fun b6 => ?_)
    refine WL.step ?_
    refine WL.store1 F.one122 rfl rfl rfl (by repeat (first | exact Upd.here | apply Upd.there)) (by repeat constructor) ?_
    refine WL.nil ?_
    refine WQ.then_normal ?_
    refine WC.seq ?_
    refine WC.region ?_
    refine WL.step ?_
    refine WL.makeFunc rfl rfl rfl ?_
    refine WL.step ?_
    refine WL.store1 F.one116 rfl rfl rfl (by repeat (first | exact Upd.here | apply Upd.there)) (by repeat constructor) ?_
    refine WL.nil ?_
    refine WQ.then_normal ?_
    refine WC.seq ?_
    refine WC.region ?_
    refine WL.step ?_
    refine WL.loadP F.one116 rfl rfl (by repeat (first | exact List.Mem.head _ | apply List.Mem.tail)) rfl ?_
    refine WL.step ?_
    refine WL.loadW F.agg74 rfl rfl (by repeat (first | exact List.Mem.head _ | apply List.Mem.tail)) rfl ?_
    refine WA.chunks (fun w hS => hS.rowNil 5 1) ?_
    refine WL.step ?_
    refine WL.callFB (β := PX b4) (res := fun _ => .tuple #[]) (c1 := fun x => pt b4 [x.1.1, .slice x.1.2.1 (Fm.putS t).length x.1.2.2] 115) (c2 := fun x => rowc (.slice x.1.2.1 (Fm.putS t).length x.1.2.2) (Fm.putS t).length 5 1 (bcells (Fm.putS t))) (q := .pointer none) (v := .slice none 0 0) (l := []) (b := b4) (us := []) (cap := [pp b4, pp b6]) F.fun65 rfl rfl rfl (by repeat (first | exact Rem.here | apply Rem.there)) (by repeat (first | exact Rem.here | apply Rem.there)) (fun w hS hS2 => put_c t G a c (.pointer none) none 0 [] (Fm.putS t) b4 b5 b6 w rfl ⟨hS.oldT hr (fun k hk => ⟨rdT_lt hr k hk, by simp⟩), fun k hk hk2 => ?_, hS.heap (cs := [Value.func (.func 65) [].toArray [pp b4, pp b6].toArray]) (by repeat (first | exact List.Mem.head _ | apply List.Mem.tail)), hS.heap (cs := [Value.func (.func 62) [].toArray [pp b5, pp b4].toArray]) (by repeat (first | exact List.Mem.head _ | apply List.Mem.tail)), ?_, ?_⟩ hno (.inl rfl) (by simp only [List.length_nil]; omega) hS2) (fun x14 => ?_)
    · have hk3 : k = b4 := by simpa [ob, Value.ownBlock] using hk2
      subst hk3
      have h1 := (hS.bnd (pt k [.pointer none, .slice none 0 0] 115) (by repeat (first | exact List.Mem.head _ | apply List.Mem.tail)) k rfl).2 (rdT_lt hr k hk)
      cases h1
    · have h1 := St.ne2 (St.pick (St.pick hS (c := pt b4 [.pointer none, .slice none 0 0] 115) (by repeat (first | exact Rem.here | apply Rem.there))) (c := pt b5 [Value.func (.func 65) [].toArray [pp b4, pp b6].toArray] 116) (by repeat (first | exact Rem.here | apply Rem.there)))
      simpa [ob, Value.ownBlock] using h1
    · have h1 := St.ne2 (St.pick (St.pick hS (c := pt b4 [.pointer none, .slice none 0 0] 115) (by repeat (first | exact Rem.here | apply Rem.there))) (c := pt b6 [Value.func (.func 62) [].toArray [pp b5, pp b4].toArray] 122) (by repeat (first | exact Rem.here | apply Rem.there)))
      simpa [ob, Value.ownBlock] using h1
    refine WL.nil ?_
    refine WQ.then_normal ?_
    refine WC.seq ?_
    refine WC.region ?_
    refine WL.step ?_
    refine WL.callC (β := Unit) (res := fun _ => .string (str (Fm.putS t))) (cs := fun _ => [pt b4 [x14.1.1, .slice x14.1.2.1 (Fm.putS t).length x14.1.2.2] 115]) (Cs := [pt b4 [x14.1.1, .slice x14.1.2.1 (Fm.putS t).length x14.1.2.2] 115, rowc (.slice x14.1.2.1 (Fm.putS t).length x14.1.2.2) (Fm.putS t).length 5 1 (bcells (Fm.putS t))]) (O' := b4 :: ob (.slice x14.1.2.1 (Fm.putS t).length x14.1.2.2)) F.fun68 (fun d h => by cases h; rfl) rfl (List.Perm.refl _) bld_fp1 bld_fp2 (fun w hS hS2 => (String_c b4 _ _ _ (Fm.putS t) hne (by omega) w hS2).mono (fun e w2 h => ⟨(), h⟩)) (fun _ => ?_)
    refine WL.step ?_
    refine WL.assign rfl rfl ?_
    refine WL.step ?_
    refine WL.assign rfl rfl ?_
    refine WL.nil ?_
    refine WQ.then_normal ?_
    refine WC.ret ?_
    refine WQ.ret (rs := [.tmp 2, .tmp 3]) rfl (.tmp rfl (.tmp rfl .nil)) (fun w hS => ⟨?_, hS.sublist (List.nil_sublist _)⟩)
    simp [printS, hv, tup]

end Go.Proofs.Ytkgllhkhdjodeaa

namespace Go.Proofs.Ytkgllhkhdjodeaa
open Go Go.Eng Go.Proofs
theorem _root_.Go.Eng.Yl.as {P : Program} {N : Nat} {D : List Deferred} {L : FL} {F : World → Prop} {o : Oper} {v v' : Value} (h : Yl P N D L F o v) (e : v = v') : Yl P N D L F o v' := e ▸ h
abbrev kv (k : Fm.Kn) : Value := .agg [.int .u32 (k.1 : Int), .int .u32 (k.2 : Int)].toArray
def KB (k : Fm.Kn) : Prop := k.1 < 4294967296 ∧ k.2 < 4294967296
/-- A clause in memory. -/
def RdC (w : World) (c : List Int) (a : Option Addr) : Prop := ∀ j x, c[j]? = some x → ∃ b off, a = some ⟨b, off, none⟩ ∧ w.cell? ⟨b, off + j, none⟩ = some (.int .i64 x)
theorem RdC.next {w0 w : World} {C : List Chunk} {c : List Int} {a : Option Addr} (h : RdC w0 c a) (hS : St w0 [] C w) : RdC w c a := fun j x hx => by
  obtain ⟨b, off, ha, hc⟩ := h j x hx
  exact ⟨b, off, ha, hS.oldc hc (by simp)⟩
/-- A list of clauses in memory, by their headers. -/
structure RdLL (w : World) (ls : List (List Int)) (a : Option Addr) (us : List Value) : Prop where
  len : us.length = ls.length
  hd : ∀ (i : Nat) (u : Value), us[i]? = some u → ∃ b off, a = some ⟨b, off, none⟩ ∧ w.cell? ⟨b, off + i, none⟩ = some u
  rd : ∀ (i : Nat) (c : List Int) (u : Value), ls[i]? = some c → us[i]? = some u → ∃ (a1 : Option Addr) (cap : Nat), u = Value.slice a1 c.length cap ∧ RdC w c a1
theorem RdLL.next {w0 w : World} {C : List Chunk} {ls : List (List Int)} {a : Option Addr} {us : List Value} (h : RdLL w0 ls a us) (hS : St w0 [] C w) : RdLL w ls a us :=
  ⟨h.len, fun i u hu => by
    obtain ⟨b, off, ha, hc⟩ := h.hd i u hu
    exact ⟨b, off, ha, hS.oldc hc (by simp)⟩, fun i c u hc hu => by
    obtain ⟨a1, cap, h1, h2⟩ := h.rd i c u hc hu
    exact ⟨a1, cap, h1, h2.next hS⟩⟩
theorem RdLL.at {w : World} {ls : List (List Int)} {a : Option Addr} {us : List Value} {i : Nat} (h : RdLL w ls a us) (hi : i < ls.length) : ∃ c b off a1 cap, ls[i]? = some c ∧ a = some ⟨b, off, none⟩ ∧ w.cell? ⟨b, off + i, none⟩ = some (.slice a1 c.length cap) ∧ RdC w c a1 := by
  have hi' : i < us.length := by rw [h.len]; exact hi
  have h1 : us[i]? = some us[i] := List.getElem?_eq_getElem hi'
  have h2 : ls[i]? = some ls[i] := List.getElem?_eq_getElem hi
  obtain ⟨b, off, ha, hc⟩ := h.hd i _ h1
  obtain ⟨a1, cap, hu, hr⟩ := h.rd i _ _ h2 h1
  exact ⟨ls[i], b, off, a1, cap, h2, ha, by rw [hc, hu], hr⟩

theorem literal_c (n l : Int) (hn : -1000 ≤ n ∧ n ≤ 1000) (w : World) : Pure Try.prog 75 [.int .i64 n, .int .i64 l] w (.bool (Fm.litB n l)) := by
  refine enter Try.func75 rfl Try.ntmps75 rfl (St.init _) ?_
  refine WC.seq ?_
  refine WC.region ?_
  refine WL.step ?_
  refine WL.assign rfl rfl ?_
  refine WL.nil ?_
  refine WQ.then_normal ?_
  refine WC.seq ?_
  refine WC.region ?_
  refine WL.step ?_
  refine WL.move rfl rfl ?_
  refine WL.step ?_
  refine WL.neI rfl rfl rfl ?_
  refine WL.step ?_
  refine WL.move rfl rfl ?_
  refine WA.splitB (i := 7) rfl (fun h7 => ?_) (fun h7 => ?_)
  · skip
    refine WL.step (WL.guardT rfl rfl rfl ?_)
    refine WL.move rfl rfl ?_
    refine WL.step (WL.guardT rfl rfl rfl ?_)
    refine WL.move rfl rfl ?_
    refine WL.step (WL.guardT rfl rfl rfl ?_)
    refine WL.negI rfl rfl (by omega) ?_
    refine WL.step (WL.guardT rfl rfl rfl ?_)
    refine WL.geI rfl rfl rfl ?_
    refine WL.step ?_
    refine WL.pickT rfl rfl rfl ?_
    refine WL.step ?_
    refine WL.move rfl rfl ?_
    refine WA.splitB (i := 13) rfl (fun h13 => ?_) (fun h13 => ?_)
    · skip
      refine WL.step (WL.guardT rfl rfl rfl ?_)
      refine WL.move rfl rfl ?_
      refine WL.step (WL.guardT rfl rfl rfl ?_)
      refine WL.move rfl rfl ?_
      refine WL.step (WL.guardT rfl rfl rfl ?_)
      refine WL.leI rfl rfl rfl ?_
      refine WL.step ?_
      refine WL.pickT rfl rfl rfl ?_
      refine WL.step ?_
      refine WL.assign rfl rfl ?_
      refine WL.nil ?_
      refine WQ.then_normal ?_
      refine WC.ret ?_
      refine WQ.ret (rs := [.tmp 4]) rfl (.tmp rfl .nil) (fun w hS => ⟨?_, hS⟩)
      first | (simp_all [tup, Fm.litB]; done) | (simp_all [tup, Fm.litB]; omega)
    · skip
      refine WL.step (WL.guardF rfl rfl rfl rfl rfl rfl ?_)
      refine WL.step (WL.guardF rfl rfl rfl rfl rfl rfl ?_)
      refine WL.step (WL.guardF rfl rfl rfl rfl rfl rfl ?_)
      refine WL.step ?_
      refine WL.pickF rfl rfl rfl ?_
      refine WL.step ?_
      refine WL.assign rfl rfl ?_
      refine WL.nil ?_
      refine WQ.then_normal ?_
      refine WC.ret ?_
      refine WQ.ret (rs := [.tmp 4]) rfl (.tmp rfl .nil) (fun w hS => ⟨?_, hS⟩)
      first | (simp_all [tup, Fm.litB]; done) | (simp_all [tup, Fm.litB]; omega)
  · skip
    refine WL.step (WL.guardF rfl rfl rfl rfl rfl rfl ?_)
    refine WL.step (WL.guardF rfl rfl rfl rfl rfl rfl ?_)
    refine WL.step (WL.guardF rfl rfl rfl rfl rfl rfl ?_)
    refine WL.step (WL.guardF rfl rfl rfl rfl rfl rfl ?_)
    refine WL.step ?_
    refine WL.pickF rfl rfl rfl ?_
    refine WL.step ?_
    refine WL.move rfl rfl ?_
    refine WL.step (WL.guardF rfl rfl rfl rfl rfl rfl ?_)
    refine WL.step (WL.guardF rfl rfl rfl rfl rfl rfl ?_)
    refine WL.step (WL.guardF rfl rfl rfl rfl rfl rfl ?_)
    refine WL.step ?_
    refine WL.pickF rfl rfl rfl ?_
    refine WL.step ?_
    refine WL.assign rfl rfl ?_
    refine WL.nil ?_
    refine WQ.then_normal ?_
    refine WC.ret ?_
    refine WQ.ret (rs := [.tmp 4]) rfl (.tmp rfl .nil) (fun w hS => ⟨?_, hS⟩)
    first | (simp_all [tup, Fm.litB]; done) | (simp_all [tup, Fm.litB]; omega)

theorem fits1_c (n l : Int) (hn : -1000 ≤ n ∧ n ≤ 1000) (bn : Nat) (w : World) (hb : w.heap[bn]? = some (.cells [Value.int .i64 n].toArray 3 (0, 0))) : Pure Try.prog 74 [.int .i64 l, pp bn] w (.bool (!Fm.litB n l)) := by
  refine enter Try.func74 rfl Try.ntmps74 rfl (St.init _) ?_
  refine WC.seq ?_
  refine WC.region ?_
  refine WL.step ?_
  refine WL.assign rfl rfl ?_
  refine WL.nil ?_
  refine WQ.then_normal ?_
  refine WC.seq ?_
  refine WC.region ?_
  refine WL.step ?_
  refine WL.load1 F.one3 rfl rfl (fun w hS => hS.oldc (cell_of_heap hb rfl) (by simp)) ?_
  refine WL.step ?_
  refine WL.move rfl rfl ?_
  refine WL.step ?_
  refine WL.callV F.fun75 rfl rfl (fun w _ => literal_c n l hn w) ?_
  refine WL.step ?_
  refine WL.not rfl rfl ?_
  refine WL.step ?_
  refine WL.assign rfl rfl ?_
  refine WL.nil ?_
  refine WQ.then_normal ?_
  refine WC.ret ?_
  exact WQ.ret (rs := [.tmp 3]) rfl (.tmp rfl .nil) (fun w hS => ⟨rfl, hS⟩)

theorem all_take {p : Int → Bool} {c : List Int} {i : Nat} {x : Int} (h : c[i]? = some x) : (c.take (i + 1)).all p = ((c.take i).all p && p x) := by
  rw [List.take_add_one, h]; simp

theorem indexC_c (n : Int) (hn : -1000 ≤ n ∧ n ≤ 1000) (c : List Int) (a : Option Addr) (cap bn : Nat) (hlen : c.length ≤ 1000) (w : World) (hb : w.heap[bn]? = some (.cells [Value.int .i64 n].toArray 3 (0, 0))) (hr : RdC w c a) :
    Calls Try.prog 93 [.slice a c.length cap, .func (.func 74) [].toArray [pp bn].toArray].toArray w fun e w' => ∃ r : { r : Int // decide (0 ≤ r) = !c.all (Fm.litB n) }, e = .returned (.int .i64 r.1) ∧ St w [] [] w' := by
  refine enter Try.func93 rfl Try.ntmps93 rfl (St.init _) ?_
  refine WC.seq ?_
  refine WC.region ?_
  refine WL.step ?_
  refine WL.assign rfl rfl ?_
  refine WL.nil ?_
  refine WQ.then_normal ?_
  refine WC.seq ?_
  refine WC.seq ?_
  refine WC.region ?_
  refine WL.step ?_
  refine WL.move rfl rfl ?_
  refine WL.step ?_
  refine WL.lenSl F.und23 rfl rfl ?_
  refine WL.step ?_
  refine WL.move rfl rfl ?_
  refine WL.nil ?_
  refine WQ.then_normal ?_
  refine WC.block ?_
  refine WC.loop (α := Nat) (fun i => i ≤ c.length ∧ (c.take i).all (Fm.litB n) = true) (fun i => [(0, .slice a c.length cap), (1, .func (.func 74) [].toArray [pp bn].toArray), (7, .int .i64 (c.length : Int)), (8, .int .i64 (i : Int))]) (fun _ => []) (fun i => c.length - i) (0) ?_ ?_ ?_ ?_
  · exact ⟨Nat.zero_le _, rfl⟩
  · exact ⟨rfl, rfl, rfl, rfl, trivial⟩
  · rfl
  rintro i ⟨hi, hno⟩
  refine WC.seq ?_
  refine WC.region ?_
  refine WL.step ?_
  refine WL.ltI rfl rfl rfl ?_
  refine WL.nil ?_
  refine WQ.then_normal ?_
  refine WC.seq ?_
  refine WC.cond rfl (fun h9 => ?_) (fun h9 => ?_)
  · skip
    have hlt : i < c.length := by simpa using h9
    obtain ⟨x, hx⟩ : ∃ x, c[i]? = some x := ⟨_, List.getElem?_eq_getElem hlt⟩
    obtain ⟨b, off, rfl, hcell⟩ := hr i x hx
    refine WC.skip ?_
    refine WQ.then_normal ?_
    refine WC.seq ?_
    refine WC.block ?_
    refine WC.seq ?_
    refine WC.region ?_
    refine WL.step ?_
    refine WL.move rfl rfl ?_
    refine WL.step ?_
    refine WL.assign rfl rfl ?_
    refine WL.nil ?_
    refine WQ.then_normal ?_
    refine WC.seq ?_
    refine WC.region ?_
    refine WL.step ?_
    refine WL.move rfl rfl ?_
    refine WL.step ?_
    refine WL.move rfl rfl ?_
    refine WL.step ?_
    refine WL.move rfl rfl ?_
    refine WL.step ?_
    refine WL.indexAddr F.sl23 rfl rfl rfl hlt ?_
    refine WL.step ?_
    refine WL.load1 F.one3 rfl rfl (v := .int .i64 x) (fun w hS => hS.oldc (by simpa using hcell) (by simp)) ?_
    refine WL.step ?_
    refine WL.callFC (β := Unit) (res := fun _ => .bool (!Fm.litB n x)) (cs := fun _ => []) (Cs := []) (O' := []) (us := []) (cap := [pp bn]) F.fun74 (fun d h => by cases h; rfl) rfl rfl (List.Perm.refl _) (by simp) (by simp) (fun w hS _ => (fits1_c n x hn bn w (hS.oldh hb (by simp))).mono (fun e w2 h => ⟨(), h⟩)) (fun _ => ?_)
    refine WL.nil ?_
    refine WQ.then_normal ?_
    refine WC.cond rfl (fun h16 => ?_) (fun h16 => ?_)
    · skip
      refine WC.seq ?_
      refine WC.region ?_
      refine WL.step ?_
      refine WL.move rfl rfl ?_
      refine WL.step ?_
      refine WL.assign rfl rfl ?_
      refine WL.nil ?_
      refine WQ.then_normal ?_
      refine WC.ret ?_
      refine WQ.block_ret ?_
      refine WQ.then_ret ?_
      refine WQ.then_ret ?_
      refine WQ.block_ret ?_
      refine WQ.then_ret ?_
      refine WQ.ret (rs := [.tmp 4]) rfl (.tmp rfl .nil) (fun w hS => ⟨⟨(i : Int), ?_⟩, rfl, hS⟩)
      have h2 : c.all (Fm.litB n) = false := by
        rw [List.all_eq_false]
        exact ⟨x, List.mem_of_getElem? hx, by simpa using h16⟩
      rw [h2]; simp
    · skip
      refine WC.skip ?_
      refine WQ.block_normal ?_
      refine WQ.then_normal ?_
      refine WC.region ?_
      refine WL.step ?_
      refine WL.add rfl rfl rfl ⟨by omega, by omega⟩ ?_
      refine WL.step ?_
      refine WL.move rfl rfl ?_
      refine WL.nil ?_
      refine WQ.back (i + 1) ?_ ?_ ?_ ?_
      · exact ⟨by omega, by rw [all_take hx, hno]; simpa using h16⟩
      · omega
      · exact ⟨rfl, rfl, rfl, rfl, trivial⟩
      · rfl
  · skip
    have hie : i = c.length := by simp at h9; omega
    subst hie
    rw [List.take_length] at hno
    refine WC.exit ?_
    refine WQ.then_exit ?_
    refine WQ.then_exit ?_
    refine WQ.block_exit ?_
    refine WQ.then_normal ?_
    refine WC.seq ?_
    refine WC.region ?_
    refine WL.step ?_
    refine WL.assign rfl rfl ?_
    refine WL.nil ?_
    refine WQ.then_normal ?_
    refine WC.ret ?_
    refine WQ.ret (rs := [.tmp 4]) rfl (.tmp rfl .nil) (fun w hS => ⟨⟨-1, ?_⟩, rfl, hS⟩)
    rw [hno]; rfl

theorem containsC_c (n : Int) (hn : -1000 ≤ n ∧ n ≤ 1000) (c : List Int) (a : Option Addr) (cap bn : Nat) (hlen : c.length ≤ 1000) (w : World) (hb : w.heap[bn]? = some (.cells [Value.int .i64 n].toArray 3 (0, 0))) (hr : RdC w c a) :
    Pure Try.prog 73 [.slice a c.length cap, .func (.func 74) [].toArray [pp bn].toArray] w (.bool (!c.all (Fm.litB n))) := by
  refine enter Try.func73 rfl Try.ntmps73 rfl (St.init _) ?_
  refine WC.seq ?_
  refine WC.region ?_
  refine WL.step ?_
  refine WL.assign rfl rfl ?_
  refine WL.nil ?_
  refine WQ.then_normal ?_
  refine WC.seq ?_
  refine WC.region ?_
  refine WL.step ?_
  refine WL.move rfl rfl ?_
  refine WL.step ?_
  refine WL.move rfl rfl ?_
  refine WL.step ?_
  refine WL.callC (β := { r : Int // decide (0 ≤ r) = !c.all (Fm.litB n) }) (res := fun r => .int .i64 r.1) (cs := fun _ => []) (Cs := []) (O' := []) F.fun93 (fun d h => by cases h; rfl) rfl (List.Perm.refl _) (by simp) (by simp) (fun w hS _ => indexC_c n hn c a cap bn hlen w (hS.oldh hb (by simp)) (hr.next hS)) (fun r => ?_)
  refine WL.step ?_
  refine WL.geI rfl rfl rfl ?_
  refine WL.step ?_
  refine WL.assign rfl rfl ?_
  refine WL.nil ?_
  refine WQ.then_normal ?_
  refine WC.ret ?_
  refine WQ.ret (rs := [.tmp 4]) rfl (.tmp rfl .nil) (fun w hS => ⟨?_, hS⟩)
  exact congrArg (fun b => Ending.returned (Value.bool b)) r.2

theorem fits_c (n : Int) (hn : -1000 ≤ n ∧ n ≤ 1000) (c : List Int) (a : Option Addr) (cap : Nat) (w : World) (hr : RdC w c a) : Pure Try.prog 49 [.int .i64 n, .slice a c.length cap] w (.bool (Fm.fitsB n c)) := by
  refine enter Try.func49 rfl Try.ntmps49 rfl (St.init _) ?_
  refine WC.seq ?_
  refine WC.region ?_
  refine WL.step ?_
  refine WL.box1 rfl rfl rfl (fun b2 => ?_)
  refine WL.step ?_
  refine WL.assign rfl rfl ?_
  refine WL.nil ?_
  refine WQ.then_normal ?_
  refine WC.seq ?_
  refine WC.region ?_
  refine WL.step ?_
  refine WL.move rfl rfl ?_
  refine WL.step ?_
  refine WL.lenSl F.und23 rfl rfl ?_
  refine WL.step ?_
  refine WL.leI rfl rfl rfl ?_
  refine WL.step ?_
  refine WL.move rfl rfl ?_
  refine WA.splitB (i := 8) rfl (fun h8 => ?_) (fun h8 => ?_)
  · skip
    have hl64 : c.length ≤ 64 := by simp at h8; omega
    refine WL.step (WL.guardT rfl rfl rfl ?_)
    refine WL.move rfl rfl ?_
    refine WL.step (WL.guardT rfl rfl rfl ?_)
    refine WL.makeFunc rfl rfl rfl ?_
    refine WL.step (WL.guardT rfl rfl rfl ?_)
    refine WL.callV F.fun73 rfl rfl (fun w hS => containsC_c n hn c a cap b2 (by omega) w (hS.heap (cs := [.int .i64 n]) (e := 3) (by repeat (first | exact List.Mem.head _ | apply List.Mem.tail))) (fun j x hx => ?_)) ?_
    · obtain ⟨b, off, ha, hc⟩ := hr j x hx
      exact ⟨b, off, ha, hS.oldc hc (by simp)⟩
    refine WL.step (WL.guardT rfl rfl rfl ?_)
    refine WL.not rfl rfl ?_
    refine WL.step ?_
    refine WL.pickT rfl rfl rfl ?_
    refine WL.step ?_
    refine WL.assign rfl rfl ?_
    refine WL.nil ?_
    refine WQ.then_normal ?_
    refine WC.ret ?_
    refine WQ.ret (rs := [.tmp 4]) rfl (.tmp rfl .nil) (fun w hS => ⟨?_, hS.drop⟩)
    first | (have h9 : c.length ≤ 64 := hl64; simp [tup, Fm.fitsB, h9]; done) | (have h9 : ¬ c.length ≤ 64 := (by simp at h8; omega); simp [tup, Fm.fitsB, h9]; done)
  · skip
    refine WL.step (WL.guardF rfl rfl rfl rfl rfl rfl ?_)
    refine WL.step (WL.guardF rfl rfl rfl rfl rfl rfl ?_)
    refine WL.step (WL.guardF rfl rfl rfl rfl rfl rfl ?_)
    refine WL.step (WL.guardF rfl rfl rfl rfl rfl rfl ?_)
    refine WL.step ?_
    refine WL.pickF rfl rfl rfl ?_
    refine WL.step ?_
    refine WL.assign rfl rfl ?_
    refine WL.nil ?_
    refine WQ.then_normal ?_
    refine WC.ret ?_
    refine WQ.ret (rs := [.tmp 4]) rfl (.tmp rfl .nil) (fun w hS => ⟨?_, hS.drop⟩)
    first | (have h9 : c.length ≤ 64 := hl64; simp [tup, Fm.fitsB, h9]; done) | (have h9 : ¬ c.length ≤ 64 := (by simp at h8; omega); simp [tup, Fm.fitsB, h9]; done)

theorem may_c (n : Int) (ls : List (List Int)) (a : Option Addr) (cap : Nat) (us : List Value) (w : World) (hr : RdLL w ls a us) : Pure Try.prog 41 [.int .i64 n, .slice a ls.length cap] w (.int .i64 (Fm.mayE n ls)) := by
  refine enter Try.func41 rfl Try.ntmps41 rfl (St.init _) ?_
  refine WC.seq ?_
  refine WC.region ?_
  refine WL.step ?_
  refine WL.assign rfl rfl ?_
  refine WL.nil ?_
  refine WQ.then_normal ?_
  refine WC.seq ?_
  refine WC.seq ?_
  refine WC.region ?_
  refine WL.step ?_
  refine WL.move rfl rfl ?_
  refine WL.step ?_
  refine WL.ltI rfl rfl rfl ?_
  refine WL.step ?_
  refine WL.move rfl rfl ?_
  refine WA.splitB (i := 9) rfl (fun h9 => ?_) (fun h9 => ?_)
  · skip
    have hm : Fm.mayE n ls = 3 := by (unfold Fm.mayE; rw [if_pos]; left; simpa using h9)
    refine WL.step (WL.guardF rfl rfl rfl rfl rfl rfl ?_)
    refine WL.step (WL.guardF rfl rfl rfl rfl rfl rfl ?_)
    refine WL.step ?_
    refine WL.pickT rfl rfl rfl ?_
    refine WL.nil ?_
    refine WQ.then_normal ?_
    refine WC.condT rfl ?_
    refine WC.seq ?_
    refine WC.region ?_
    refine WL.step ?_
    refine WL.assign rfl rfl ?_
    refine WL.nil ?_
    refine WQ.then_normal ?_
    refine WC.ret ?_
    refine WQ.then_ret ?_
    refine WQ.ret (rs := [.tmp 4]) rfl (.tmp rfl .nil) (fun w hS => ⟨?_, hS⟩)
    rw [hm]; rfl
  · skip
    refine WL.step (WL.guardT rfl rfl rfl ?_)
    refine WL.move rfl rfl ?_
    refine WL.step (WL.guardT rfl rfl rfl ?_)
    refine WL.gtI rfl rfl rfl ?_
    refine WL.step ?_
    refine WL.pickF rfl rfl rfl ?_
    refine WL.nil ?_
    refine WQ.then_normal ?_
    refine WC.cond rfl (fun h12 => ?_) (fun h12 => ?_)
    · skip
      have hm : Fm.mayE n ls = 3 := by (unfold Fm.mayE; rw [if_pos]; first | (right; simpa using h12) | (left; simpa using h9))
      refine WC.seq ?_
      refine WC.region ?_
      refine WL.step ?_
      refine WL.assign rfl rfl ?_
      refine WL.nil ?_
      refine WQ.then_normal ?_
      refine WC.ret ?_
      refine WQ.then_ret ?_
      refine WQ.ret (rs := [.tmp 4]) rfl (.tmp rfl .nil) (fun w hS => ⟨?_, hS⟩)
      rw [hm]; rfl
    · skip
      have hn0 : ¬ (n < 0 ∨ 24 < n) := by (simp at h9 h12; omega)
      have hnb : -1000 ≤ n ∧ n ≤ 1000 := by omega
      refine WC.skip ?_
      refine WQ.then_normal ?_
      refine WC.seq ?_
      refine WC.seq ?_
      refine WC.region ?_
      refine WL.step ?_
      refine WL.move rfl rfl ?_
      refine WL.step ?_
      refine WL.lenSl F.und33 rfl rfl ?_
      refine WL.step ?_
      refine WL.gtI rfl rfl rfl ?_
      refine WL.nil ?_
      refine WQ.then_normal ?_
      refine WC.cond rfl (fun h15 => ?_) (fun h15 => ?_)
      · skip
        have hm : Fm.mayE n ls = 2 := by (unfold Fm.mayE; rw [if_neg hn0, if_pos]; simp at h15; omega)
        refine WC.seq ?_
        refine WC.region ?_
        refine WL.step ?_
        refine WL.assign rfl rfl ?_
        refine WL.nil ?_
        refine WQ.then_normal ?_
        refine WC.ret ?_
        refine WQ.then_ret ?_
        refine WQ.ret (rs := [.tmp 4]) rfl (.tmp rfl .nil) (fun w hS => ⟨?_, hS⟩)
        rw [hm]; rfl
      · skip
        have hl0 : ¬ 4096 < ls.length := by (simp at h15; omega)
        refine WC.skip ?_
        refine WQ.then_normal ?_
        refine WC.seq ?_
        refine WC.seq ?_
        refine WC.region ?_
        refine WL.step ?_
        refine WL.move rfl rfl ?_
        refine WL.step ?_
        refine WL.lenSl F.und33 rfl rfl ?_
        refine WL.step ?_
        refine WL.move rfl rfl ?_
        refine WL.nil ?_
        refine WQ.then_normal ?_
        refine WC.block ?_
        refine WC.loop (α := Nat) (fun i => i ≤ ls.length ∧ (ls.take i).all (Fm.fitsB n) = true) (fun i => [(0, .int .i64 n), (16, .slice a ls.length cap), (17, .int .i64 (ls.length : Int)), (18, .int .i64 (i : Int))]) (fun _ => []) (fun i => ls.length - i) (0) ?_ ?_ ?_ ?_
        · exact ⟨Nat.zero_le _, rfl⟩
        · exact ⟨rfl, rfl, rfl, rfl, trivial⟩
        · rfl
        rintro i ⟨hi, hno⟩
        refine WC.seq ?_
        refine WC.region ?_
        refine WL.step ?_
        refine WL.ltI rfl rfl rfl ?_
        refine WL.nil ?_
        refine WQ.then_normal ?_
        refine WC.seq ?_
        refine WC.cond rfl (fun h19 => ?_) (fun h19 => ?_)
        · skip
          have hlt : i < ls.length := by simpa using h19
          obtain ⟨c, b, off, a1, cap1, hc, rfl, hcell, hrc⟩ := hr.at hlt
          refine WC.skip ?_
          refine WQ.then_normal ?_
          refine WC.seq ?_
          refine WC.block ?_
          refine WC.seq ?_
          refine WC.region ?_
          refine WL.step ?_
          refine WL.indexAddr F.sl33 rfl rfl rfl hlt ?_
          refine WL.step ?_
          refine WL.load1 F.one23 rfl rfl (v := .slice a1 c.length cap1) (fun w hS => hS.oldc (by simpa using hcell) (by simp)) ?_
          refine WL.step ?_
          refine WL.assign rfl rfl ?_
          refine WL.nil ?_
          refine WQ.then_normal ?_
          refine WC.seq ?_
          refine WC.region ?_
          refine WL.step ?_
          refine WL.move rfl rfl ?_
          refine WL.step ?_
          refine WL.move rfl rfl ?_
          refine WL.step ?_
          refine WL.callV F.fun49 rfl rfl (fun w hS => fits_c n hnb c a1 cap1 w (hrc.next hS)) ?_
          refine WL.step ?_
          refine WL.not rfl rfl ?_
          refine WL.nil ?_
          refine WQ.then_normal ?_
          refine WC.cond rfl (fun h25 => ?_) (fun h25 => ?_)
          · skip
            have hm : Fm.mayE n ls = 2 := by
              unfold Fm.mayE; rw [if_neg hn0, if_neg hl0, if_neg]
              rw [Bool.not_eq_true, List.all_eq_false]
              exact ⟨c, List.mem_of_getElem? hc, by simpa using h25⟩
            refine WC.seq ?_
            refine WC.region ?_
            refine WL.step ?_
            refine WL.assign rfl rfl ?_
            refine WL.nil ?_
            refine WQ.then_normal ?_
            refine WC.ret ?_
            refine WQ.block_ret ?_
            refine WQ.then_ret ?_
            refine WQ.then_ret ?_
            refine WQ.block_ret ?_
            refine WQ.then_ret ?_
            refine WQ.ret (rs := [.tmp 4]) rfl (.tmp rfl .nil) (fun w hS => ⟨?_, hS⟩)
            rw [hm]; rfl
          · skip
            refine WC.skip ?_
            refine WQ.block_normal ?_
            refine WQ.then_normal ?_
            refine WC.region ?_
            refine WL.step ?_
            refine WL.add rfl rfl rfl ⟨by omega, by omega⟩ ?_
            refine WL.step ?_
            refine WL.move rfl rfl ?_
            refine WL.nil ?_
            refine WQ.back (i + 1) ?_ ?_ ?_ ?_
            · exact ⟨by omega, by rw [List.take_add_one, hc]; simp only [Option.toList, List.all_append, hno, List.all_cons, List.all_nil]; simpa using h25⟩
            · omega
            · exact ⟨rfl, rfl, rfl, rfl, trivial⟩
            · rfl
        · skip
          have hie : i = ls.length := by simp at h19; omega
          subst hie
          rw [List.take_length] at hno
          have hm : Fm.mayE n ls = 0 := by (unfold Fm.mayE; rw [if_neg hn0, if_neg hl0, if_pos hno])
          refine WC.exit ?_
          refine WQ.then_exit ?_
          refine WQ.then_exit ?_
          refine WQ.block_exit ?_
          refine WQ.then_normal ?_
          refine WC.seq ?_
          refine WC.region ?_
          refine WL.step ?_
          refine WL.assign rfl rfl ?_
          refine WL.nil ?_
          refine WQ.then_normal ?_
          refine WC.ret ?_
          refine WQ.ret (rs := [.tmp 4]) rfl (.tmp rfl .nil) (fun w hS => ⟨?_, hS⟩)
          rw [hm]; rfl

end Go.Proofs.Ytkgllhkhdjodeaa

namespace Go.Proofs.Ytkgllhkhdjodeaa
open Go Go.Eng Go.Proofs
theorem pow32 {k : Nat} (h : k < 32) : 2 ^ k < 4294967296 := Nat.lt_of_lt_of_le (Nat.pow_lt_pow_right (by decide) h) (by decide)
theorem KB.with {k : Fm.Kn} {l : Int} (hk : KB k) (hl : l ≠ 0 ∧ -32 ≤ l ∧ l ≤ 32) : KB (Fm.withK k l) := by
  unfold Fm.withK
  split
  · exact ⟨Nat.or_lt_two_pow (n := 32) hk.1 (pow32 (by omega)), hk.2⟩
  · exact ⟨hk.1, Nat.or_lt_two_pow (n := 32) hk.2 (pow32 (by omega))⟩
abbrev Lit (l : Int) : Prop := l ≠ 0 ∧ -32 ≤ l ∧ l ≤ 32

theorem has_c (k : Fm.Kn) (l : Int) (hk : KB k) (hl : Lit l) (w : World) : Pure Try.prog 45 [kv k, .int .i64 l] w (.bool (Fm.hasK k l)) := by
  refine enter Try.func45 rfl Try.ntmps45 rfl (St.init _) ?_
  refine WC.seq ?_
  refine WC.region ?_
  refine WL.step ?_
  refine WL.boxN rfl rfl (fun b2 => ?_)
  refine WL.step ?_
  refine WL.assign rfl rfl ?_
  refine WL.nil ?_
  refine WQ.then_normal ?_
  refine WC.seq ?_
  refine WC.seq ?_
  refine WC.region ?_
  refine WL.step ?_
  refine WL.move rfl rfl ?_
  refine WL.step ?_
  refine WL.gtI rfl rfl rfl ?_
  refine WL.nil ?_
  refine WQ.then_normal ?_
  refine WC.cond rfl (fun h6 => ?_) (fun h6 => ?_)
  · skip
    have hp : 0 < l := by simpa using h6
    refine WC.seq ?_
    refine WC.region ?_
    refine WL.step ?_
    refine WL.fieldAddr0 F.fld82_0 rfl rfl ?_
    refine WL.step ?_
    refine WL.loadP F.one22 rfl rfl (by repeat (first | exact List.Mem.head _ | apply List.Mem.tail)) rfl ?_
    refine WL.step ?_
    refine WL.move rfl rfl ?_
    refine WL.step ?_
    refine WL.sub rfl rfl rfl ⟨by omega, by omega⟩ ?_
    refine WA.say 10 (.int .i64 (((l - 1).toNat : Nat) : Int)) (congrArg (fun z => some (Value.int .i64 z)) (show l - 1 = (((l - 1).toNat : Nat) : Int) by omega)) ?_
    refine WL.step ?_
    refine WL.bin (v := .int .u32 (((k.1 >>> (l - 1).toNat : Nat)) : Int)) rfl rfl rfl (fun w => run_shr (by omega) _ _ _ w) ?_
    refine WL.step ?_
    refine WL.bin (v := .int .u32 ((((k.1 >>> (l - 1).toNat) &&& 1 : Nat)) : Int)) rfl rfl rfl (fun w => run_and (Nat.lt_of_le_of_lt (Nat.shiftRight_le _ _) hk.1) (by decide) _ _ _ w) ?_
    refine WL.step ?_
    refine WL.eqI rfl rfl rfl ?_
    refine WL.step ?_
    refine WL.assign rfl rfl ?_
    refine WL.nil ?_
    refine WQ.then_normal ?_
    refine WC.ret ?_
    refine WQ.then_ret ?_
    refine WQ.ret (rs := [.tmp 4]) rfl (.tmp rfl .nil) (fun w hS => ⟨?_, hS.drop⟩)
    exact congrArg (fun b => Ending.returned (Value.bool b)) ((Fm.testBit_shift k.1 (l - 1).toNat).trans (by unfold Fm.hasK; rw [if_pos hp]))
  · skip
    have hp : ¬ 0 < l := by simpa using h6
    refine WC.skip ?_
    refine WQ.then_normal ?_
    refine WC.seq ?_
    refine WC.region ?_
    refine WL.step ?_
    refine WL.fieldAddr0 F.fld82_1 rfl rfl ?_
    refine WL.step ?_
    refine WL.loadP F.one22 rfl rfl (by repeat (first | exact List.Mem.head _ | apply List.Mem.tail)) rfl ?_
    refine WL.step ?_
    refine WL.move rfl rfl ?_
    refine WL.step ?_
    refine WL.negI rfl rfl (by omega) ?_
    refine WL.step ?_
    refine WL.sub rfl rfl rfl ⟨by omega, by omega⟩ ?_
    refine WA.say 18 (.int .i64 (((-l - 1).toNat : Nat) : Int)) (congrArg (fun z => some (Value.int .i64 z)) (show -l - 1 = (((-l - 1).toNat : Nat) : Int) by omega)) ?_
    refine WL.step ?_
    refine WL.bin (v := .int .u32 (((k.2 >>> (-l - 1).toNat : Nat)) : Int)) rfl rfl rfl (fun w => run_shr (by omega) _ _ _ w) ?_
    refine WL.step ?_
    refine WL.bin (v := .int .u32 ((((k.2 >>> (-l - 1).toNat) &&& 1 : Nat)) : Int)) rfl rfl rfl (fun w => run_and (Nat.lt_of_le_of_lt (Nat.shiftRight_le _ _) hk.2) (by decide) _ _ _ w) ?_
    refine WL.step ?_
    refine WL.eqI rfl rfl rfl ?_
    refine WL.step ?_
    refine WL.assign rfl rfl ?_
    refine WL.nil ?_
    refine WQ.then_normal ?_
    refine WC.ret ?_
    refine WQ.ret (rs := [.tmp 4]) rfl (.tmp rfl .nil) (fun w hS => ⟨?_, hS.drop⟩)
    exact congrArg (fun b => Ending.returned (Value.bool b)) ((Fm.testBit_shift k.2 (-l - 1).toNat).trans (by unfold Fm.hasK; rw [if_neg hp]))

theorem with_c (k : Fm.Kn) (l : Int) (hk : KB k) (hl : Lit l) (w : World) : Pure Try.prog 43 [kv k, .int .i64 l] w (kv (Fm.withK k l)) := by
  refine enter Try.func43 rfl Try.ntmps43 rfl (St.init _) ?_
  refine WC.seq ?_
  refine WC.region ?_
  refine WL.step ?_
  refine WL.boxN rfl rfl (fun b2 => ?_)
  refine WL.step ?_
  refine WL.alloc F.zero82 rfl (fun b4 => ?_)
  refine WL.nil ?_
  refine WQ.then_normal ?_
  refine WC.seq ?_
  refine WC.seq ?_
  refine WC.region ?_
  refine WL.step ?_
  refine WL.move rfl rfl ?_
  refine WL.step ?_
  refine WL.gtI rfl rfl rfl ?_
  refine WL.nil ?_
  refine WQ.then_normal ?_
  refine WC.cond rfl (fun h6 => ?_) (fun h6 => ?_)
  · skip
    have hp : 0 < l := by simpa using h6
    have hw : Fm.withK k l = (k.1 ||| 2 ^ (l - 1).toNat, k.2) := by unfold Fm.withK; rw [if_pos hp]
    refine WC.draws [([7], fun w => w.cell? ⟨b2, 0, none⟩ = some (.int .u32 (k.1 : Int)))] (by kernel_rfl) (fun w hS => facts_cons (hS.cell (by repeat (first | exact List.Mem.head _ | apply List.Mem.tail)) rfl) (facts_nil)) ?_
    refine WD.take (i := 0) rfl rfl rfl rfl (by kernel_rfl) (by kernel_rfl) (by kernel_rfl) (fun _ _ _ h => h) (by kernel_rfl) need_none (Yl.fieldAddr0 F.fld82_0 rfl) ?_
    refine WD.take (i := 1) rfl rfl rfl rfl (by kernel_rfl) (by kernel_rfl) (by kernel_rfl) (fun _ _ _ h => h) (by kernel_rfl) (need_at 0 8 rfl (by kernel_rfl)) (Yl.load1 F.one22 rfl) ?_
    refine WD.take (i := 2) rfl rfl rfl rfl (by kernel_rfl) (by kernel_rfl) (by kernel_rfl) (fun _ _ _ h => h) (by kernel_rfl) need_none (Yl.move rfl) ?_
    refine WD.take (i := 3) rfl rfl rfl rfl (by kernel_rfl) (by kernel_rfl) (by kernel_rfl) (fun _ _ _ h => h) (by kernel_rfl) need_none (Yl.as (Yl.sub rfl rfl ⟨by omega, by omega⟩) (congrArg (Value.int .i64) (show l - 1 = (((l - 1).toNat : Nat) : Int) by omega))) ?_
    refine WD.take (i := 4) rfl rfl rfl rfl (by kernel_rfl) (by kernel_rfl) (by kernel_rfl) (fun _ _ _ h => h) (by kernel_rfl) need_none (Yl.bin (v := .int .u32 ((2 ^ (l - 1).toNat : Nat) : Int)) rfl rfl (fun w => run_shl1 (by omega) _ _ _ w)) ?_
    refine WD.take (i := 5) rfl rfl rfl rfl (by kernel_rfl) (by kernel_rfl) (by kernel_rfl) (fun _ _ _ h => h) (by kernel_rfl) need_none (Yl.bin (v := .int .u32 ((k.1 ||| 2 ^ (l - 1).toNat : Nat) : Int)) rfl rfl (fun w => run_or hk.1 (pow32 (by omega)) _ _ _ w)) ?_
    refine WD.take (i := 6) rfl rfl rfl rfl (by kernel_rfl) (by kernel_rfl) (by kernel_rfl) (fun _ _ _ h => h) (by kernel_rfl) need_none (Yl.fieldAddr0 F.fld82_0 rfl) ?_
    refine WD.one (i := 7) (by kernel_rfl) rfl ?_
    refine WL.store1 F.one22 rfl rfl rfl (by repeat (first | exact Upd.here | apply Upd.there)) (by repeat constructor) ?_
    refine WD.on (closed_of (by kernel_rfl)) (fun w hS => Sx.gone rfl (Sx.none)) ?_
    refine WD.done (by kernel_rfl) ?_
    refine WQ.then_normal ?_
    refine WC.seq ?_
    refine WC.region ?_
    refine WL.step ?_
    refine WL.loadW F.agg82 rfl rfl (by repeat (first | exact List.Mem.head _ | apply List.Mem.tail)) rfl ?_
    refine WL.step ?_
    refine WL.storeN F.agg82 rfl rfl rfl (by simp [Value.oneCell']) (by repeat (first | exact Upd.here | apply Upd.there)) (by repeat constructor) ?_
    refine WL.nil ?_
    refine WQ.then_normal ?_
    refine WC.ret ?_
    refine WQ.ret (rs := [.cell 4 82]) rfl (.cellN F.agg82 rfl (by repeat (first | exact List.Mem.head _ | apply List.Mem.tail)) rfl .nil) (fun w hS => ⟨?_, hS.drop.drop⟩)
    rw [hw]; rfl
  · skip
    have hp : ¬ 0 < l := by simpa using h6
    have hw : Fm.withK k l = (k.1, k.2 ||| 2 ^ (-l - 1).toNat) := by unfold Fm.withK; rw [if_neg hp]
    refine WC.draws [([8], fun w => w.cell? ⟨b2, 1, none⟩ = some (.int .u32 (k.2 : Int)))] (by kernel_rfl) (fun w hS => facts_cons (hS.cell (by repeat (first | exact List.Mem.head _ | apply List.Mem.tail)) rfl) (facts_nil)) ?_
    refine WD.take (i := 0) rfl rfl rfl rfl (by kernel_rfl) (by kernel_rfl) (by kernel_rfl) (fun _ _ _ h => h) (by kernel_rfl) need_none (Yl.fieldAddr0 F.fld82_1 rfl) ?_
    refine WD.take (i := 1) rfl rfl rfl rfl (by kernel_rfl) (by kernel_rfl) (by kernel_rfl) (fun _ _ _ h => h) (by kernel_rfl) (need_at 0 9 rfl (by kernel_rfl)) (Yl.load1 F.one22 rfl) ?_
    refine WD.take (i := 2) rfl rfl rfl rfl (by kernel_rfl) (by kernel_rfl) (by kernel_rfl) (fun _ _ _ h => h) (by kernel_rfl) need_none (Yl.move rfl) ?_
    refine WD.take (i := 3) rfl rfl rfl rfl (by kernel_rfl) (by kernel_rfl) (by kernel_rfl) (fun _ _ _ h => h) (by kernel_rfl) need_none (Yl.negI rfl (by omega)) ?_
    refine WD.take (i := 4) rfl rfl rfl rfl (by kernel_rfl) (by kernel_rfl) (by kernel_rfl) (fun _ _ _ h => h) (by kernel_rfl) need_none (Yl.as (Yl.sub rfl rfl ⟨by omega, by omega⟩) (congrArg (Value.int .i64) (show -l - 1 = (((-l - 1).toNat : Nat) : Int) by omega))) ?_
    refine WD.take (i := 5) rfl rfl rfl rfl (by kernel_rfl) (by kernel_rfl) (by kernel_rfl) (fun _ _ _ h => h) (by kernel_rfl) need_none (Yl.bin (v := .int .u32 ((2 ^ (-l - 1).toNat : Nat) : Int)) rfl rfl (fun w => run_shl1 (by omega) _ _ _ w)) ?_
    refine WD.take (i := 6) rfl rfl rfl rfl (by kernel_rfl) (by kernel_rfl) (by kernel_rfl) (fun _ _ _ h => h) (by kernel_rfl) need_none (Yl.bin (v := .int .u32 ((k.2 ||| 2 ^ (-l - 1).toNat : Nat) : Int)) rfl rfl (fun w => run_or hk.2 (pow32 (by omega)) _ _ _ w)) ?_
    refine WD.take (i := 7) rfl rfl rfl rfl (by kernel_rfl) (by kernel_rfl) (by kernel_rfl) (fun _ _ _ h => h) (by kernel_rfl) need_none (Yl.fieldAddr0 F.fld82_1 rfl) ?_
    refine WD.one (i := 8) (by kernel_rfl) rfl ?_
    refine WL.store1 F.one22 rfl rfl rfl (by repeat (first | exact Upd.here | apply Upd.there)) (by repeat constructor) ?_
    refine WD.on (closed_of (by kernel_rfl)) (fun w hS => Sx.gone rfl (Sx.none)) ?_
    refine WD.done (by kernel_rfl) ?_
    refine WQ.then_normal ?_
    refine WC.seq ?_
    refine WC.region ?_
    refine WL.step ?_
    refine WL.loadW F.agg82 rfl rfl (by repeat (first | exact List.Mem.head _ | apply List.Mem.tail)) rfl ?_
    refine WL.step ?_
    refine WL.storeN F.agg82 rfl rfl rfl (by simp [Value.oneCell']) (by repeat (first | exact Upd.here | apply Upd.there)) (by repeat constructor) ?_
    refine WL.nil ?_
    refine WQ.then_normal ?_
    refine WC.ret ?_
    refine WQ.ret (rs := [.cell 4 82]) rfl (.cellN F.agg82 rfl (by repeat (first | exact List.Mem.head _ | apply List.Mem.tail)) rfl .nil) (fun w hS => ⟨?_, hS.drop.drop⟩)
    rw [hw]; rfl

theorem unitG_drop {k : Fm.Kn} {c : List Int} {i : Nat} {x op : Int} (h : c[i]? = some x) : Fm.unitG k op (c.drop i) = if Fm.hasK k x then (0, false) else if Fm.hasK k (-x) || x == op then Fm.unitG k op (c.drop (i + 1)) else if op ≠ 0 then (0, false) else Fm.unitG k x (c.drop (i + 1)) := by
  obtain ⟨hi, he⟩ := List.getElem?_eq_some_iff.1 h
  rw [List.drop_eq_getElem_cons hi, he]
  simp only [Fm.unitG]
theorem unitG_mem {k : Fm.Kn} {x : Int} : ∀ {c : List Int} {op : Int}, Fm.unitG k op c = (x, true) → x = op ∨ x ∈ c
  | [], op, h => by simp only [Fm.unitG, Prod.mk.injEq, and_true] at h; exact .inl h.symm
  | l :: ls, op, h => by
    simp only [Fm.unitG] at h
    split at h
    · simp at h
    split at h
    · rcases unitG_mem h with h1 | h1
      · exact .inl h1
      · exact .inr (List.mem_cons_of_mem _ h1)
    split at h
    · simp at h
    · rcases unitG_mem h with h1 | h1
      · exact .inr (by rw [h1]; exact List.mem_cons_self ..)
      · exact .inr (List.mem_cons_of_mem _ h1)

theorem unit_c (k : Fm.Kn) (c : List Int) (a : Option Addr) (cap : Nat) (hk : KB k) (hc : ∀ x ∈ c, Lit x) (hlen : c.length ≤ 1099511627776) (w : World) (hr : RdC w c a) :
    Pure Try.prog 69 [kv k, .slice a c.length cap] w (.tuple #[.int .i64 (Fm.unitK k c).1, .bool (Fm.unitK k c).2]) := by
  refine enter Try.func69 rfl Try.ntmps69 rfl (St.init _) ?_
  refine WC.seq ?_
  refine WC.region ?_
  refine WL.step ?_
  refine WL.boxN rfl rfl (fun b2 => ?_)
  refine WL.step ?_
  refine WL.assign rfl rfl ?_
  refine WL.step ?_
  refine WL.assign rfl rfl ?_
  refine WL.nil ?_
  refine WQ.then_normal ?_
  refine WC.seq ?_
  refine WC.region ?_
  refine WL.step ?_
  refine WL.assign rfl rfl ?_
  refine WL.nil ?_
  refine WQ.then_normal ?_
  refine WC.seq ?_
  refine WC.seq ?_
  refine WC.region ?_
  refine WL.step ?_
  refine WL.move rfl rfl ?_
  refine WL.step ?_
  refine WL.lenSl F.und23 rfl rfl ?_
  refine WL.step ?_
  refine WL.move rfl rfl ?_
  refine WL.nil ?_
  refine WQ.then_normal ?_
  refine WC.block ?_
  refine WC.loop (α := Nat × Int) (fun g => g.1 ≤ c.length ∧ Fm.unitG k g.2 (c.drop g.1) = Fm.unitK k c) (fun g => [(2, pp b2), (6, .int .i64 g.2), (9, .slice a c.length cap), (10, .int .i64 (c.length : Int)), (11, .int .i64 (g.1 : Int))]) (fun _ => [pt b2 [.int .u32 (k.1 : Int), .int .u32 (k.2 : Int)] 82]) (fun g => c.length - g.1) ((0, 0)) ?_ ?_ ?_ ?_
  · exact ⟨Nat.zero_le _, rfl⟩
  · exact ⟨rfl, rfl, rfl, rfl, rfl, trivial⟩
  · rfl
  rintro ⟨i, op⟩ ⟨hi, hu⟩
  dsimp only at hi hu
  show WC _ _ _ _ _ _ _ [(2, pp b2), (6, .int .i64 op), (9, .slice a c.length cap), (10, .int .i64 (c.length : Int)), (11, .int .i64 (i : Int))] [pt b2 [.int .u32 (k.1 : Int), .int .u32 (k.2 : Int)] 82]
  refine WC.seq ?_
  refine WC.region ?_
  refine WL.step ?_
  refine WL.ltI rfl rfl rfl ?_
  refine WL.nil ?_
  refine WQ.then_normal ?_
  refine WC.seq ?_
  refine WC.cond rfl (fun h12 => ?_) (fun h12 => ?_)
  · skip
    have hlt : i < c.length := by simpa using h12
    obtain ⟨x, hx⟩ : ∃ x, c[i]? = some x := ⟨_, List.getElem?_eq_getElem hlt⟩
    obtain ⟨b, off, rfl, hcell⟩ := hr i x hx
    have hxl := hc x (List.mem_of_getElem? hx)
    have hxn : Lit (-x) := ⟨by omega, by omega, by omega⟩
    have hu2 := hu
    rw [unitG_drop hx] at hu2
    refine WC.skip ?_
    refine WQ.then_normal ?_
    refine WC.seq ?_
    refine WC.block ?_
    refine WC.seq ?_
    refine WC.region ?_
    refine WL.step ?_
    refine WL.indexAddr F.sl23 rfl rfl rfl hlt ?_
    refine WL.step ?_
    refine WL.load1 F.one3 rfl rfl (v := .int .i64 x) (fun w hS => hS.oldc (by simpa using hcell) (by simp)) ?_
    refine WL.step ?_
    refine WL.assign rfl rfl ?_
    refine WL.nil ?_
    refine WQ.then_normal ?_
    refine WC.block ?_
    refine WC.seq ?_
    refine WC.region ?_
    refine WL.step ?_
    refine WL.loadW F.agg82 rfl rfl (by repeat (first | exact List.Mem.head _ | apply List.Mem.tail)) rfl ?_
    refine WL.step ?_
    refine WL.move rfl rfl ?_
    refine WL.step ?_
    refine WL.callV F.fun45 rfl rfl (fun w _ => has_c k x hk hxl w) ?_
    refine WL.step ?_
    refine WL.assign rfl rfl ?_
    refine WL.nil ?_
    refine WQ.then_normal ?_
    refine WC.cond rfl (fun h16 => ?_) (fun h16 => ?_)
    · skip
      rw [h16] at hu2
      refine WC.seq ?_
      refine WC.region ?_
      refine WL.step ?_
      refine WL.assign rfl rfl ?_
      refine WL.step ?_
      refine WL.assign rfl rfl ?_
      refine WL.nil ?_
      refine WQ.then_normal ?_
      refine WC.ret ?_
      refine WQ.block_ret ?_
      refine WQ.block_ret ?_
      refine WQ.then_ret ?_
      refine WQ.then_ret ?_
      refine WQ.block_ret ?_
      refine WQ.then_ret ?_
      refine WQ.ret (rs := [.tmp 4, .tmp 5]) rfl (.tmp rfl (.tmp rfl .nil)) (fun w hS => ⟨?_, hS.drop⟩)
      rw [← hu2]; rfl
    · skip
      rw [h16] at hu2
      simp only [Bool.false_eq_true, if_false] at hu2
      refine WC.seq ?_
      refine WC.region ?_
      refine WL.step ?_
      refine WL.loadW F.agg82 rfl rfl (by repeat (first | exact List.Mem.head _ | apply List.Mem.tail)) rfl ?_
      refine WL.step ?_
      refine WL.move rfl rfl ?_
      refine WL.step ?_
      refine WL.negI rfl rfl (by omega) ?_
      refine WL.step ?_
      refine WL.callV F.fun45 rfl rfl (fun w _ => has_c k (-x) hk hxn w) ?_
      refine WL.step ?_
      refine WL.move rfl rfl ?_
      refine WA.splitB (i := 25) rfl (fun h25 => ?_) (fun h25 => ?_)
      · skip
        rw [h25] at hu2
        simp only [Bool.true_or, if_true] at hu2
        refine WL.step (WL.guardF rfl rfl rfl rfl rfl rfl ?_)
        refine WL.step (WL.guardF rfl rfl rfl rfl rfl rfl ?_)
        refine WL.step (WL.guardF rfl rfl rfl rfl rfl rfl ?_)
        refine WL.step ?_
        refine WL.pickT rfl rfl rfl ?_
        refine WL.step ?_
        refine WL.assign rfl rfl ?_
        refine WL.nil ?_
        refine WQ.then_normal ?_
        refine WC.condT rfl ?_
        refine WC.skip ?_
        refine WQ.block_normal ?_
        refine WQ.block_normal ?_
        refine WQ.then_normal ?_
        refine WC.region ?_
        refine WL.step ?_
        refine WL.add rfl rfl rfl ⟨by omega, by omega⟩ ?_
        refine WL.step ?_
        refine WL.move rfl rfl ?_
        refine WL.nil ?_
        refine WQ.back ((i + 1, op)) ?_ ?_ ?_ ?_
        · exact ⟨by show i + 1 ≤ c.length; omega, hu2⟩
        · (show c.length - (i + 1) < c.length - i; omega)
        · exact ⟨rfl, rfl, rfl, rfl, rfl, trivial⟩
        · rfl
      · skip
        rw [h25] at hu2
        simp only [Bool.false_or] at hu2
        refine WL.step (WL.guardT rfl rfl rfl ?_)
        refine WL.move rfl rfl ?_
        refine WL.step (WL.guardT rfl rfl rfl ?_)
        refine WL.move rfl rfl ?_
        refine WL.step (WL.guardT rfl rfl rfl ?_)
        refine WL.eqI rfl rfl rfl ?_
        refine WL.step ?_
        refine WL.pickF rfl rfl rfl ?_
        refine WL.step ?_
        refine WL.assign rfl rfl ?_
        refine WL.nil ?_
        refine WQ.then_normal ?_
        refine WC.cond rfl (fun h20 => ?_) (fun h20 => ?_)
        · skip
          have h20b : (x == op) = true := h20
          rw [h20b] at hu2
          simp only [if_true] at hu2
          refine WC.skip ?_
          refine WQ.block_normal ?_
          refine WQ.block_normal ?_
          refine WQ.then_normal ?_
          refine WC.region ?_
          refine WL.step ?_
          refine WL.add rfl rfl rfl ⟨by omega, by omega⟩ ?_
          refine WL.step ?_
          refine WL.move rfl rfl ?_
          refine WL.nil ?_
          refine WQ.back ((i + 1, op)) ?_ ?_ ?_ ?_
          · exact ⟨by show i + 1 ≤ c.length; omega, hu2⟩
          · (show c.length - (i + 1) < c.length - i; omega)
          · exact ⟨rfl, rfl, rfl, rfl, rfl, trivial⟩
          · rfl
        · skip
          have h20b : (x == op) = false := h20
          rw [h20b] at hu2
          simp only [Bool.false_eq_true, if_false] at hu2
          refine WC.seq ?_
          refine WC.region ?_
          refine WL.step ?_
          refine WL.move rfl rfl ?_
          refine WL.step ?_
          refine WL.neI rfl rfl rfl ?_
          refine WL.step ?_
          refine WL.assign rfl rfl ?_
          refine WL.nil ?_
          refine WQ.then_normal ?_
          refine WC.cond rfl (fun h30 => ?_) (fun h30 => ?_)
          · skip
            have hop : op ≠ 0 := by simpa using h30
            rw [if_pos hop] at hu2
            refine WC.seq ?_
            refine WC.region ?_
            refine WL.step ?_
            refine WL.assign rfl rfl ?_
            refine WL.step ?_
            refine WL.assign rfl rfl ?_
            refine WL.nil ?_
            refine WQ.then_normal ?_
            refine WC.ret ?_
            refine WQ.block_ret ?_
            refine WQ.block_ret ?_
            refine WQ.then_ret ?_
            refine WQ.then_ret ?_
            refine WQ.block_ret ?_
            refine WQ.then_ret ?_
            refine WQ.ret (rs := [.tmp 4, .tmp 5]) rfl (.tmp rfl (.tmp rfl .nil)) (fun w hS => ⟨?_, hS.drop⟩)
            rw [← hu2]; rfl
          · skip
            have hop : op = 0 := by simpa using h30
            rw [if_neg (by simpa using hop)] at hu2
            refine WC.region ?_
            refine WL.step ?_
            refine WL.move rfl rfl ?_
            refine WL.step ?_
            refine WL.assign rfl rfl ?_
            refine WL.nil ?_
            refine WQ.block_normal ?_
            refine WQ.block_normal ?_
            refine WQ.then_normal ?_
            refine WC.region ?_
            refine WL.step ?_
            refine WL.add rfl rfl rfl ⟨by omega, by omega⟩ ?_
            refine WL.step ?_
            refine WL.move rfl rfl ?_
            refine WL.nil ?_
            refine WQ.back ((i + 1, x)) ?_ ?_ ?_ ?_
            · exact ⟨by show i + 1 ≤ c.length; omega, hu2⟩
            · (show c.length - (i + 1) < c.length - i; omega)
            · exact ⟨rfl, rfl, rfl, rfl, rfl, trivial⟩
            · rfl
  · skip
    have hie : i = c.length := by simp at h12; omega
    subst hie
    rw [List.drop_length] at hu
    refine WC.exit ?_
    refine WQ.then_exit ?_
    refine WQ.then_exit ?_
    refine WQ.block_exit ?_
    refine WQ.then_normal ?_
    refine WC.seq ?_
    refine WC.region ?_
    refine WL.step ?_
    refine WL.move rfl rfl ?_
    refine WL.step ?_
    refine WL.assign rfl rfl ?_
    refine WL.step ?_
    refine WL.assign rfl rfl ?_
    refine WL.nil ?_
    refine WQ.then_normal ?_
    refine WC.ret ?_
    refine WQ.ret (rs := [.tmp 4, .tmp 5]) rfl (.tmp rfl (.tmp rfl .nil)) (fun w hS => ⟨?_, hS.drop⟩)
    rw [← hu]; rfl

end Go.Proofs.Ytkgllhkhdjodeaa

namespace Go.Proofs.Ytkgllhkhdjodeaa
open Go Go.Eng Go.Proofs
theorem passK_drop {ls : List (List Int)} {i : Nat} {c : List Int} {k : Fm.Kn} {ag : Bool} (h : ls[i]? = some c) :
    Fm.passK (ls.drop i) k ag = if Fm.clash k then .inl k else if (Fm.unitK k c).2 && (Fm.unitK k c).1 == 0 then .inl k else if (Fm.unitK k c).2 then Fm.passK (ls.drop (i + 1)) (Fm.withK k (Fm.unitK k c).1) true else Fm.passK (ls.drop (i + 1)) k ag := by
  obtain ⟨hi, he⟩ := List.getElem?_eq_some_iff.1 h
  rw [List.drop_eq_getElem_cons hi, he]
  simp only [Fm.passK]
theorem clash_ne {k : Fm.Kn} : (((k.1 &&& k.2 : Nat) : Int) != 0) = Fm.clash k := by
  unfold Fm.clash
  rw [bne, Bool.eq_iff_iff]
  simp
theorem clash_eq {k : Fm.Kn} : (((k.1 &&& k.2 : Nat) : Int) == 0) = !Fm.clash k := by
  rw [← clash_ne, bne, Bool.not_not]

theorem closed_c (ls : List (List Int)) (a : Option Addr) (cap : Nat) (us : List Value) (k : Fm.Kn) (f : Nat) (r : Fm.Kn × Bool) (hk : KB k) (hls : ∀ c ∈ ls, ∀ x ∈ c, Lit x) (hcl : ∀ c ∈ ls, c.length ≤ 1099511627776) (hlen : ls.length ≤ 1099511627776)
    (w : World) (hr : RdLL w ls a us) (h : Fm.closedF f ls k = some r) : Pure Try.prog 44 [.slice a ls.length cap, kv k] w (.tuple #[kv r.1, .bool r.2]) := by
  refine enter Try.func44 rfl Try.ntmps44 rfl (St.init _) ?_
  refine WC.seq ?_
  refine WC.region ?_
  refine WL.step ?_
  refine WL.boxN rfl rfl (fun b3 => ?_)
  refine WL.step ?_
  refine WL.alloc F.zero82 rfl (fun b4 => ?_)
  refine WL.step ?_
  refine WL.assign rfl rfl ?_
  refine WL.nil ?_
  refine WQ.then_normal ?_
  refine WC.seq ?_
  refine WC.seq ?_
  refine WC.region ?_
  refine WL.step ?_
  refine WL.assign rfl rfl ?_
  refine WL.nil ?_
  refine WQ.then_normal ?_
  refine WC.block ?_
  refine WC.loop (α := Nat × Fm.Kn × Bool) (fun g => KB g.2.1 ∧ (g.2.2 = true → Fm.closedF g.1 ls g.2.1 = some r) ∧ (g.2.2 = false → r = (g.2.1, !Fm.clash g.2.1))) (fun g => [(0, .slice a ls.length cap), (3, pp b3), (4, pp b4), (6, .bool g.2.2)]) (fun g => [pt b4 [.int .u32 0, .int .u32 0] 82, pt b3 [.int .u32 (g.2.1.1 : Int), .int .u32 (g.2.1.2 : Int)] 82]) (fun g => if g.2.2 then g.1 + 1 else 0) ((f, k, true)) ?_ ?_ ?_ ?_
  · exact ⟨hk, fun _ => h, fun h0 => by cases h0⟩
  · exact ⟨rfl, rfl, rfl, rfl, trivial⟩
  · rfl
  rintro ⟨f, k, ag⟩ ⟨hk, hT, hF⟩
  dsimp only at hk hT hF
  show WC _ _ _ _ _ _ _ [(0, .slice a ls.length cap), (3, pp b3), (4, pp b4), (6, .bool ag)] [pt b4 [.int .u32 0, .int .u32 0] 82, pt b3 [.int .u32 (k.1 : Int), .int .u32 (k.2 : Int)] 82]
  refine WC.seq ?_
  refine WC.seq ?_
  refine WC.region ?_
  refine WL.step ?_
  refine WL.move rfl rfl ?_
  refine WL.nil ?_
  refine WQ.then_normal ?_
  refine WC.cond rfl (fun h11 => ?_) (fun h11 => ?_)
  · skip
    subst h11
    have hcf := hT rfl
    obtain ⟨f, rfl⟩ : ∃ f2, f = f2 + 1 := by cases f with | zero => simp [Fm.closedF] at hcf | succ f => exact ⟨f, rfl⟩
    simp only [Fm.closedF] at hcf
    obtain ⟨pr, hpr⟩ : ∃ pr, pr = Fm.passK ls k false := ⟨_, rfl⟩
    rw [← hpr] at hcf
    refine WC.skip ?_
    refine WQ.then_normal ?_
    refine WC.block ?_
    refine WC.seq ?_
    refine WC.region ?_
    refine WL.step ?_
    refine WL.assign rfl rfl ?_
    refine WL.nil ?_
    refine WQ.then_normal ?_
    refine WC.seq ?_
    refine WC.region ?_
    refine WL.step ?_
    refine WL.move rfl rfl ?_
    refine WL.step ?_
    refine WL.lenSl F.und33 rfl rfl ?_
    refine WL.step ?_
    refine WL.move rfl rfl ?_
    refine WL.nil ?_
    refine WQ.then_normal ?_
    refine WC.block ?_
    refine WC.loop (α := Nat × Fm.Kn × Bool) (fun g => g.1 ≤ ls.length ∧ KB g.2.1 ∧ Fm.passK (ls.drop g.1) g.2.1 g.2.2 = pr) (fun g => [(0, .slice a ls.length cap), (3, pp b3), (4, pp b4), (6, .bool g.2.2), (12, .slice a ls.length cap), (13, .int .i64 (ls.length : Int)), (14, .int .i64 (g.1 : Int))]) (fun g => [pt b4 [.int .u32 0, .int .u32 0] 82, pt b3 [.int .u32 (g.2.1.1 : Int), .int .u32 (g.2.1.2 : Int)] 82]) (fun g => ls.length - g.1) ((0, k, false)) ?_ ?_ ?_ ?_
    · exact ⟨Nat.zero_le _, hk, hpr.symm⟩
    · exact ⟨rfl, rfl, rfl, rfl, rfl, rfl, rfl, trivial⟩
    · rfl
    rintro ⟨i, k, ag⟩ ⟨hi, hk, hpass⟩
    dsimp only at hi hk hpass
    show WC _ _ _ _ _ _ _ [(0, .slice a ls.length cap), (3, pp b3), (4, pp b4), (6, .bool ag), (12, .slice a ls.length cap), (13, .int .i64 (ls.length : Int)), (14, .int .i64 (i : Int))] [pt b4 [.int .u32 0, .int .u32 0] 82, pt b3 [.int .u32 (k.1 : Int), .int .u32 (k.2 : Int)] 82]
    refine WC.seq ?_
    refine WC.region ?_
    refine WL.step ?_
    refine WL.ltI rfl rfl rfl ?_
    refine WL.nil ?_
    refine WQ.then_normal ?_
    refine WC.seq ?_
    refine WC.cond rfl (fun h15 => ?_) (fun h15 => ?_)
    · skip
      have hlt : i < ls.length := by simpa using h15
      obtain ⟨c, b, off, a1, cap1, hc, rfl, hcell, hrc⟩ := hr.at hlt
      have hpass2 := hpass
      rw [passK_drop hc] at hpass2
      have hcm := List.mem_of_getElem? hc
      refine WC.skip ?_
      refine WQ.then_normal ?_
      refine WC.seq ?_
      refine WC.block ?_
      refine WC.seq ?_
      refine WC.region ?_
      refine WL.step ?_
      refine WL.indexAddr F.sl33 rfl rfl rfl hlt ?_
      refine WL.step ?_
      refine WL.load1 F.one23 rfl rfl (v := .slice a1 c.length cap1) (fun w hS => hS.oldc (by simpa using hcell) (by simp)) ?_
      refine WL.step ?_
      refine WL.assign rfl rfl ?_
      refine WL.nil ?_
      refine WQ.then_normal ?_
      refine WC.seq ?_
      refine WC.seq ?_
      refine WC.region ?_
      refine WL.step ?_
      refine WL.fieldAddr0 F.fld82_0 rfl rfl ?_
      refine WL.step ?_
      refine WL.loadP F.one22 rfl rfl (by repeat (first | exact List.Mem.head _ | apply List.Mem.tail)) rfl ?_
      refine WL.step ?_
      refine WL.fieldAddr0 F.fld82_1 rfl rfl ?_
      refine WL.step ?_
      refine WL.loadP F.one22 rfl rfl (by repeat (first | exact List.Mem.head _ | apply List.Mem.tail)) rfl ?_
      refine WL.step ?_
      refine WL.bin (v := .int .u32 ((k.1 &&& k.2 : Nat) : Int)) rfl rfl rfl (fun w => run_and hk.1 hk.2 _ _ _ w) ?_
      refine WL.step ?_
      refine WL.neI rfl rfl rfl ?_
      refine WL.nil ?_
      refine WQ.then_normal ?_
      refine WC.cond rfl (fun h23 => ?_) (fun h23 => ?_)
      · skip
        rw [clash_ne] at h23
        rw [if_pos h23] at hpass2
        rw [← hpass2] at hcf
        have hr3 : (k, false) = r := by simpa using hcf
        subst hr3
        refine WC.seq ?_
        refine WC.region ?_
        refine WL.step ?_
        refine WL.loadW F.agg82 rfl rfl (by repeat (first | exact List.Mem.head _ | apply List.Mem.tail)) rfl ?_
        refine WL.step ?_
        refine WL.storeN F.agg82 rfl rfl rfl (by simp [Value.oneCell']) (by repeat (first | exact Upd.here | apply Upd.there)) (by repeat constructor) ?_
        refine WL.step ?_
        refine WL.assign rfl rfl ?_
        refine WL.nil ?_
        refine WQ.then_normal ?_
        refine WC.ret ?_
        refine WQ.then_ret ?_
        refine WQ.block_ret ?_
        refine WQ.then_ret ?_
        refine WQ.then_ret ?_
        refine WQ.block_ret ?_
        refine WQ.block_ret ?_
        refine WQ.then_ret ?_
        refine WQ.block_ret ?_
        refine WQ.then_ret ?_
        refine WQ.ret (rs := [.cell 4 82, .tmp 5]) rfl (.cellN F.agg82 rfl (by repeat (first | exact List.Mem.head _ | apply List.Mem.tail)) rfl (.tmp rfl .nil)) (fun w hS => ⟨?_, hS.drop.drop⟩)
        rfl
      · skip
        rw [clash_ne] at h23
        rw [if_neg (by rw [h23]; decide)] at hpass2
        refine WC.skip ?_
        refine WQ.then_normal ?_
        refine WC.seq ?_
        refine WC.region ?_
        refine WL.step ?_
        refine WL.loadW F.agg82 rfl rfl (by repeat (first | exact List.Mem.head _ | apply List.Mem.tail)) rfl ?_
        refine WL.step ?_
        refine WL.move rfl rfl ?_
        refine WL.step ?_
        refine WL.callV F.fun69 rfl rfl (fun w hS => unit_c k c a1 cap1 hk (hls c hcm) (hcl c hcm) w (hrc.next hS)) ?_
        refine WL.step ?_
        refine WL.move rfl rfl ?_
        refine WL.step ?_
        refine WL.extract rfl rfl rfl ?_
        refine WL.step ?_
        refine WL.extract rfl rfl rfl ?_
        refine WL.step ?_
        refine WL.assign rfl rfl ?_
        refine WL.step ?_
        refine WL.assign rfl rfl ?_
        refine WL.nil ?_
        refine WQ.then_normal ?_
        refine WC.seq ?_
        refine WC.seq ?_
        refine WC.region ?_
        refine WL.step ?_
        refine WL.move rfl rfl ?_
        refine WL.step ?_
        refine WL.move rfl rfl ?_
        refine WA.splitB (i := 32) rfl (fun h32 => ?_) (fun h32 => ?_)
        · skip
          refine WL.step (WL.guardT rfl rfl rfl ?_)
          refine WL.move rfl rfl ?_
          refine WL.step (WL.guardT rfl rfl rfl ?_)
          refine WL.eqI rfl rfl rfl ?_
          refine WL.step ?_
          refine WL.pickT rfl rfl rfl ?_
          refine WL.nil ?_
          refine WQ.then_normal ?_
          refine WC.cond rfl (fun h35 => ?_) (fun h35 => ?_)
          · skip
            rw [if_pos (by rw [h32]; exact h35)] at hpass2
            rw [← hpass2] at hcf
            have hr3 : (k, false) = r := by simpa using hcf
            subst hr3
            refine WC.seq ?_
            refine WC.region ?_
            refine WL.step ?_
            refine WL.loadW F.agg82 rfl rfl (by repeat (first | exact List.Mem.head _ | apply List.Mem.tail)) rfl ?_
            refine WL.step ?_
            refine WL.storeN F.agg82 rfl rfl rfl (by simp [Value.oneCell']) (by repeat (first | exact Upd.here | apply Upd.there)) (by repeat constructor) ?_
            refine WL.step ?_
            refine WL.assign rfl rfl ?_
            refine WL.nil ?_
            refine WQ.then_normal ?_
            refine WC.ret ?_
            refine WQ.then_ret ?_
            refine WQ.block_ret ?_
            refine WQ.then_ret ?_
            refine WQ.then_ret ?_
            refine WQ.block_ret ?_
            refine WQ.block_ret ?_
            refine WQ.then_ret ?_
            refine WQ.block_ret ?_
            refine WQ.then_ret ?_
            refine WQ.ret (rs := [.cell 4 82, .tmp 5]) rfl (.cellN F.agg82 rfl (by repeat (first | exact List.Mem.head _ | apply List.Mem.tail)) rfl (.tmp rfl .nil)) (fun w hS => ⟨?_, hS.drop.drop⟩)
            rfl
          · skip
            refine WC.skip ?_
            refine WQ.then_normal ?_
            refine WC.seq ?_
            refine WC.region ?_
            refine WL.step ?_
            refine WL.move rfl rfl ?_
            refine WL.nil ?_
            refine WQ.then_normal ?_
            refine WC.cond rfl (fun h37 => ?_) (fun h37 => ?_)
            · skip
              have hx0 : (Fm.unitK k c).1 ≠ 0 := by first | (simpa using h35) | (exact absurd h37 (by rw [h32]; decide))
              have hxl : Lit (Fm.unitK k c).1 := by
                rcases unitG_mem (x := (Fm.unitK k c).1) (c := c) (op := 0) (k := k) (by have := h37; unfold Fm.unitK at this ⊢; rw [← this]) with h0 | h0
                · exact absurd h0 hx0
                · exact hls c hcm _ h0
              have hpass3 : Fm.passK (ls.drop (i + 1)) (Fm.withK k (Fm.unitK k c).1) true = pr := by
                rw [if_neg, if_pos h37] at hpass2
                · exact hpass2
                · simp [hx0]
              refine WC.seq ?_
              refine WC.region ?_
              refine WL.step ?_
              refine WL.loadW F.agg82 rfl rfl (by repeat (first | exact List.Mem.head _ | apply List.Mem.tail)) rfl ?_
              refine WL.step ?_
              refine WL.move rfl rfl ?_
              refine WL.step ?_
              refine WL.callV F.fun43 rfl rfl (fun w _ => with_c k _ hk hxl w) ?_
              refine WL.step ?_
              refine WL.storeN F.agg82 rfl rfl rfl (by simp [Value.oneCell']) (by repeat (first | exact Upd.here | apply Upd.there)) (by repeat constructor) ?_
              refine WL.nil ?_
              refine WQ.then_normal ?_
              refine WC.region ?_
              refine WL.step ?_
              refine WL.assign rfl rfl ?_
              refine WL.nil ?_
              refine WQ.block_normal ?_
              refine WQ.then_normal ?_
              refine WC.region ?_
              refine WL.step ?_
              refine WL.add rfl rfl rfl ⟨by omega, by omega⟩ ?_
              refine WL.step ?_
              refine WL.move rfl rfl ?_
              refine WL.nil ?_
              refine WQ.back ((i + 1, Fm.withK k (Fm.unitK k c).1, true)) ?_ ?_ ?_ ?_
              · exact ⟨by show i + 1 ≤ ls.length; omega, hk.with hxl, hpass3⟩
              · (show ls.length - (i + 1) < ls.length - i; omega)
              · exact ⟨rfl, rfl, rfl, rfl, rfl, rfl, rfl, trivial⟩
              · rfl
            · skip
              have hpass3 : Fm.passK (ls.drop (i + 1)) k ag = pr := by
                rw [if_neg, if_neg] at hpass2
                · exact hpass2
                · rw [h37]; decide
                · rw [h37]; simp
              refine WC.skip ?_
              refine WQ.block_normal ?_
              refine WQ.then_normal ?_
              refine WC.region ?_
              refine WL.step ?_
              refine WL.add rfl rfl rfl ⟨by omega, by omega⟩ ?_
              refine WL.step ?_
              refine WL.move rfl rfl ?_
              refine WL.nil ?_
              refine WQ.back ((i + 1, k, ag)) ?_ ?_ ?_ ?_
              · exact ⟨by show i + 1 ≤ ls.length; omega, hk, hpass3⟩
              · (show ls.length - (i + 1) < ls.length - i; omega)
              · exact ⟨rfl, rfl, rfl, rfl, rfl, rfl, rfl, trivial⟩
              · rfl
        · skip
          refine WL.step (WL.guardF rfl rfl rfl rfl rfl rfl ?_)
          refine WL.step (WL.guardF rfl rfl rfl rfl rfl rfl ?_)
          refine WL.step ?_
          refine WL.pickF rfl rfl rfl ?_
          refine WL.nil ?_
          refine WQ.then_normal ?_
          refine WC.condF rfl ?_
          refine WC.skip ?_
          refine WQ.then_normal ?_
          refine WC.seq ?_
          refine WC.region ?_
          refine WL.step ?_
          refine WL.move rfl rfl ?_
          refine WL.nil ?_
          refine WQ.then_normal ?_
          refine WC.cond rfl (fun h37 => ?_) (fun h37 => ?_)
          · skip
            have hx0 : (Fm.unitK k c).1 ≠ 0 := by first | (simpa using h35) | (exact absurd h37 (by rw [h32]; decide))
            have hxl : Lit (Fm.unitK k c).1 := by
              rcases unitG_mem (x := (Fm.unitK k c).1) (c := c) (op := 0) (k := k) (by have := h37; unfold Fm.unitK at this ⊢; rw [← this]) with h0 | h0
              · exact absurd h0 hx0
              · exact hls c hcm _ h0
            have hpass3 : Fm.passK (ls.drop (i + 1)) (Fm.withK k (Fm.unitK k c).1) true = pr := by
              rw [if_neg, if_pos h37] at hpass2
              · exact hpass2
              · simp [hx0]
            refine WC.seq ?_
            refine WC.region ?_
            refine WL.step ?_
            refine WL.loadW F.agg82 rfl rfl (by repeat (first | exact List.Mem.head _ | apply List.Mem.tail)) rfl ?_
            refine WL.step ?_
            refine WL.move rfl rfl ?_
            refine WL.step ?_
            refine WL.callV F.fun43 rfl rfl (fun w _ => with_c k _ hk hxl w) ?_
            refine WL.step ?_
            refine WL.storeN F.agg82 rfl rfl rfl (by simp [Value.oneCell']) (by repeat (first | exact Upd.here | apply Upd.there)) (by repeat constructor) ?_
            refine WL.nil ?_
            refine WQ.then_normal ?_
            refine WC.region ?_
            refine WL.step ?_
            refine WL.assign rfl rfl ?_
            refine WL.nil ?_
            refine WQ.block_normal ?_
            refine WQ.then_normal ?_
            refine WC.region ?_
            refine WL.step ?_
            refine WL.add rfl rfl rfl ⟨by omega, by omega⟩ ?_
            refine WL.step ?_
            refine WL.move rfl rfl ?_
            refine WL.nil ?_
            refine WQ.back ((i + 1, Fm.withK k (Fm.unitK k c).1, true)) ?_ ?_ ?_ ?_
            · exact ⟨by show i + 1 ≤ ls.length; omega, hk.with hxl, hpass3⟩
            · (show ls.length - (i + 1) < ls.length - i; omega)
            · exact ⟨rfl, rfl, rfl, rfl, rfl, rfl, rfl, trivial⟩
            · rfl
          · skip
            have hpass3 : Fm.passK (ls.drop (i + 1)) k ag = pr := by
              rw [if_neg, if_neg] at hpass2
              · exact hpass2
              · rw [h37]; decide
              · rw [h37]; simp
            refine WC.skip ?_
            refine WQ.block_normal ?_
            refine WQ.then_normal ?_
            refine WC.region ?_
            refine WL.step ?_
            refine WL.add rfl rfl rfl ⟨by omega, by omega⟩ ?_
            refine WL.step ?_
            refine WL.move rfl rfl ?_
            refine WL.nil ?_
            refine WQ.back ((i + 1, k, ag)) ?_ ?_ ?_ ?_
            · exact ⟨by show i + 1 ≤ ls.length; omega, hk, hpass3⟩
            · (show ls.length - (i + 1) < ls.length - i; omega)
            · exact ⟨rfl, rfl, rfl, rfl, rfl, rfl, rfl, trivial⟩
            · rfl
    · skip
      have hie : i = ls.length := by simp at h15; omega
      subst hie
      refine WC.exit ?_
      refine WQ.then_exit ?_
      refine WQ.then_exit ?_
      refine WQ.block_exit ?_
      refine WQ.block_normal ?_
      rw [List.drop_length] at hpass
      have hpr2 : pr = .inr (k, ag) := hpass.symm
      rw [hpr2] at hcf
      simp only at hcf
      refine WQ.back ((f, k, ag)) ?_ ?_ ?_ ?_
      · exact ⟨hk, fun h0 => by rw [show ag = true from h0] at hcf; simpa using hcf, fun h0 => by rw [show ag = false from h0] at hcf; simpa using hcf.symm⟩
      · (show (if ag = true then f + 1 else 0) < f + 1 + 1; split <;> omega)
      · exact ⟨rfl, rfl, rfl, rfl, trivial⟩
      · rfl
  · skip
    have hres := hF h11
    refine WC.exit ?_
    refine WQ.then_exit ?_
    refine WQ.then_exit ?_
    refine WQ.block_exit ?_
    refine WQ.then_normal ?_
    refine WC.seq ?_
    refine WC.draws [([7], fun w => ∀ j v, [Value.int .u32 (k.1 : Int), .int .u32 (k.2 : Int)][j]? = some v → w.cell? ⟨b3, 0 + j, none⟩ = some v), ([], fun w => w.cell? ⟨b3, 0, none⟩ = some (.int .u32 (k.1 : Int))), ([], fun w => w.cell? ⟨b3, 1, none⟩ = some (.int .u32 (k.2 : Int)))] (by kernel_rfl) (fun w hS => facts_cons (fun j v hv => by rw [Nat.zero_add]; exact hS.cell (by repeat (first | exact List.Mem.head _ | apply List.Mem.tail)) hv) (facts_cons (hS.cell (by repeat (first | exact List.Mem.head _ | apply List.Mem.tail)) rfl) (facts_cons (hS.cell (by repeat (first | exact List.Mem.head _ | apply List.Mem.tail)) rfl) (facts_nil)))) ?_
    refine WD.take (i := 0) rfl rfl rfl rfl (by kernel_rfl) (by kernel_rfl) (by kernel_rfl) (fun _ _ _ h => h) (by kernel_rfl) (need_at 0 9 rfl (by kernel_rfl)) (Yl.loadN F.agg82 rfl rfl) ?_
    refine WD.take (i := 1) rfl rfl rfl rfl (by kernel_rfl) (by kernel_rfl) (by kernel_rfl) (fun _ _ _ h => h) (by kernel_rfl) need_none (Yl.fieldAddr0 F.fld82_0 rfl) ?_
    refine WD.take (i := 2) rfl rfl rfl rfl (by kernel_rfl) (by kernel_rfl) (by kernel_rfl) (fun _ _ _ h => h) (by kernel_rfl) (need_at 1 9 rfl (by kernel_rfl)) (Yl.load1 F.one22 rfl) ?_
    refine WD.take (i := 3) rfl rfl rfl rfl (by kernel_rfl) (by kernel_rfl) (by kernel_rfl) (fun _ _ _ h => h) (by kernel_rfl) need_none (Yl.fieldAddr0 F.fld82_1 rfl) ?_
    refine WD.take (i := 4) rfl rfl rfl rfl (by kernel_rfl) (by kernel_rfl) (by kernel_rfl) (fun _ _ _ h => h) (by kernel_rfl) (need_at 2 9 rfl (by kernel_rfl)) (Yl.load1 F.one22 rfl) ?_
    refine WD.take (i := 5) rfl rfl rfl rfl (by kernel_rfl) (by kernel_rfl) (by kernel_rfl) (fun _ _ _ h => h) (by kernel_rfl) need_none (Yl.bin (v := .int .u32 ((k.1 &&& k.2 : Nat) : Int)) rfl rfl (fun w => run_and hk.1 hk.2 _ _ _ w)) ?_
    refine WD.take (i := 6) rfl rfl rfl rfl (by kernel_rfl) (by kernel_rfl) (by kernel_rfl) (fun _ _ _ h => h) (by kernel_rfl) need_none (Yl.eqI rfl rfl) ?_
    refine WD.one (i := 7) (by kernel_rfl) rfl ?_
    refine WL.storeN F.agg82 rfl rfl rfl (by simp [Value.oneCell']) (by repeat (first | exact Upd.here | apply Upd.there)) (by repeat constructor) ?_
    refine WD.on (closed_of (by kernel_rfl)) (fun w hS => Sx.gone rfl (Sx.keep (hS.cell (by repeat (first | exact List.Mem.head _ | apply List.Mem.tail)) rfl) (Sx.keep (hS.cell (by repeat (first | exact List.Mem.head _ | apply List.Mem.tail)) rfl) (Sx.none)))) ?_
    refine WD.take (i := 8) rfl rfl rfl rfl (by kernel_rfl) (by kernel_rfl) (by kernel_rfl) (fun _ _ _ h => h) (by kernel_rfl) need_none (Yl.assign rfl) ?_
    refine WD.done (by kernel_rfl) ?_
    refine WQ.then_normal ?_
    refine WC.ret ?_
    refine WQ.ret (rs := [.cell 4 82, .tmp 5]) rfl (.cellN F.agg82 rfl (by repeat (first | exact List.Mem.head _ | apply List.Mem.tail)) rfl (.tmp rfl .nil)) (fun w hS => ⟨?_, hS.drop.drop⟩)
    rw [hres]
    exact congrArg (fun b => Ending.returned (Value.tuple #[kv k, Value.bool b])) clash_eq

end Go.Proofs.Ytkgllhkhdjodeaa

namespace Go.Eng
open Go Go.RowKit
section
variable {P : Program} {w0 : World} {O : List Nat} {Q : Exit → Act → World → Prop} {N : Nat} {D : List Deferred} {L : FL} {C : List Chunk}
theorem WC.scope {c : Code} (h : WC P w0 O c (Exit.noGoto Q) N D L C) : WC P w0 O (.scope c) Q N D L C := fun a w hF hS => wp_scope_straight (h a w hF hS)
theorem WQ.scope_ret (h : WQ w0 O Q .ret N D L C) : WQ w0 O (Exit.noGoto Q) .ret N D L C := h
/-- Rows of numbers of the holder's own, by their headers. -/
def stepsC (F : List Nat) (vs : List Value) (ss : List (List Int)) : Chunk where
  fp k := k ∈ F
  ok w := vs.length = ss.length ∧ ∀ (i : Nat) (c : List Int) (u : Value), ss[i]? = some c → vs[i]? = some u → ∃ (a1 : Option Addr) (cap : Nat), u = Value.slice a1 c.length cap ∧ ∀ (j : Nat) (x : Int), c[j]? = some x → ∃ b, a1 = some ⟨b, 0, none⟩ ∧ b ∈ F ∧ w.cell? ⟨b, j, none⟩ = some (.int .i64 x)
  loc w w' h hw := ⟨hw.1, fun i c u hc hu => by
    obtain ⟨a1, cap, h1, h2⟩ := hw.2 i c u hc hu
    refine ⟨a1, cap, h1, fun j x hx => ?_⟩
    obtain ⟨b, hb1, hb2, hb3⟩ := h2 j x hx
    exact ⟨b, hb1, hb2, by rw [World.cell?_of_block (w := w) (w' := w') (a := ⟨b, j, none⟩) (h b hb2)]; exact hb3⟩⟩
theorem St.stepsNil {w : World} (h : St w0 O C w) : St w0 O (stepsC [] [] [] :: C) w :=
  ⟨h.os, h.tape, h.output, h.size, h.old, fun x hx => by
    rcases List.mem_cons.1 hx with rfl | hx
    · exact ⟨rfl, fun i c u hc _ => by simp at hc⟩
    · exact h.ok x hx, fun x hx k hk => by
    rcases List.mem_cons.1 hx with rfl | hx
    · cases hk
    · exact h.bnd x hx k hk, List.Pairwise.cons (fun x hx k hk => by cases hk) h.disj⟩
/-- One row more. -/
theorem St.stepsSnoc {w : World} {F : List Nat} {vs : List Value} {ss : List (List Int)} {b : Nat} {c : List Int} {e : TypeId} (h : St w0 O (stepsC F vs ss :: pt b (c.map (Value.int .i64)) e :: C) w) :
    St w0 O (stepsC (b :: F) (vs ++ [.slice (some ⟨b, 0, none⟩) c.length c.length]) (ss ++ [c]) :: C) w :=
  h.join (fun k hk => by
    rcases List.mem_cons.1 hk with rfl | hk
    · exact .inr rfl
    · exact .inl hk) (fun hc hd _ => by
    obtain ⟨h1, h2⟩ := hc
    have hd' : w.heap[b]? = some (.cells (c.map (Value.int .i64)).toArray e (0, 0)) := hd
    refine ⟨by simp [h1], fun i c' u hc' hu => ?_⟩
    by_cases hi : i < ss.length
    · rw [List.getElem?_append_left hi] at hc'
      rw [List.getElem?_append_left (by omega)] at hu
      obtain ⟨a1, cap, h3, h4⟩ := h2 i c' u hc' hu
      refine ⟨a1, cap, h3, fun j x hx => ?_⟩
      obtain ⟨g, hg1, hg2, hg3⟩ := h4 j x hx
      exact ⟨g, hg1, List.mem_cons_of_mem _ hg2, hg3⟩
    · rw [List.getElem?_append_right (by omega)] at hc'
      rw [List.getElem?_append_right (by omega)] at hu
      have h0 : i - ss.length = 0 := by
        have := (List.getElem?_eq_some_iff.1 hc').1
        simp at this; omega
      rw [h0] at hc'
      rw [h1, h0] at hu
      simp at hc' hu
      subst hc'; subst hu
      refine ⟨_, _, rfl, fun j x hx => ⟨b, rfl, List.mem_cons_self .., ?_⟩⟩
      simp [World.cell?, hd', hx])
end
end Go.Eng
namespace Go.Proofs.Ytkgllhkhdjodeaa
open Go Go.Eng Go.Proofs
/-- The caller's clauses and the steps, behind one another in a row of headers. -/
theorem RdLL.join {w0 w : World} {C : List Chunk} {ls ss : List (List Int)} {a aa : Option Addr} {us vs hs : List Value} {F : List Nat} {n cap : Nat} (h : RdLL w0 ls a us) (hS : St w0 [] C w) (hhs : hs = us ++ vs) (hn : n = ls.length + ss.length)
    (h1 : rowc (.slice aa n cap) n 23 1 hs ∈ C) (h2 : stepsC F vs ss ∈ C) : RdLL w (ls ++ ss) aa hs := by
  have hn' := h.next hS
  have ho1 := hS.ok _ h1
  have ho2 := hS.ok _ h2
  obtain ⟨hv1, hv2⟩ := (show vs.length = ss.length ∧ _ from ho2)
  refine ⟨by rw [hhs, List.length_append, List.length_append, h.len, hv1], fun i u hu => ?_, fun i c u hc hu => ?_⟩
  · have hpos : 0 < n := by
      have := (List.getElem?_eq_some_iff.1 hu).1
      rw [hhs, List.length_append, h.len, hv1] at this
      omega
    obtain ⟨g, hg, _, _⟩ := rowc_addr ho1 hpos
    subst hg
    exact ⟨g, 0, rfl, by rw [Nat.zero_add]; exact rowc_cell ho1 hu⟩
  · subst hhs
    by_cases hi : i < ls.length
    · rw [List.getElem?_append_left hi] at hc
      rw [List.getElem?_append_left (by rw [h.len]; exact hi)] at hu
      exact hn'.rd i c u hc hu
    · rw [List.getElem?_append_right (by omega)] at hc
      rw [List.getElem?_append_right (by rw [h.len]; omega), h.len] at hu
      obtain ⟨a1, cap1, h3, h4⟩ := hv2 _ c u hc hu
      refine ⟨a1, cap1, h3, fun j x hx => ?_⟩
      obtain ⟨b, hb1, _, hb3⟩ := h4 j x hx
      exact ⟨b, 0, hb1, by rw [Nat.zero_add]; exact hb3⟩
end Go.Proofs.Ytkgllhkhdjodeaa

namespace Go.Eng
open Go Go.RowKit
section
variable {P : Program} {w0 : World} {O : List Nat} {ops : Array Oper} {Q : Exit → Act → World → Prop} {N : Nat} {D : List Deferred} {L : FL} {C : List Chunk} {K : Act → World → Prop}
/-! the facts that the loads of a drawn region lean on, read off the state -/
def FactsOk (w0 : World) (O : List Nat) (L : FL) (C : List Chunk) (Fs : List (List Nat × (World → Prop))) : Prop := ∀ w, St w0 O C w → ∀ f ∈ Fs, f.2 w
def LoadOk (w0 : World) (O : List Nat) (L : FL) (C : List Chunk) (Y : World → Prop) : Prop := ∀ w, St w0 O C w → Y w
theorem FactsOk.nil : FactsOk w0 O L C [] := fun w hS f hf => by cases hf
theorem FactsOk.cons {ds : List Nat} {Y : World → Prop} {Fs : List (List Nat × (World → Prop))} (h : LoadOk w0 O L C Y) (hr : FactsOk w0 O L C Fs) : FactsOk w0 O L C ((ds, Y) :: Fs) := fun w hS f hf => by
  rcases List.mem_cons.1 hf with rfl | hf
  · exact h w hS
  · exact hr w hS f hf
theorem LoadOk.one {t b off : Nat} {cs : List Value} {e : TypeId} {v : Value} (hl : lk L t = some (.pointer (some ⟨b, 0, none⟩))) (hm : pt b cs e ∈ C) (hv : cs[off]? = some v) : LoadOk w0 O L C (fun w => w.cell? ⟨b, off, none⟩ = some v) :=
  fun w hS => hS.cell hm hv
theorem LoadOk.whole {t b : Nat} {cs : List Value} {e : TypeId} (hl : lk L t = some (.pointer (some ⟨b, 0, none⟩))) (hm : pt b cs e ∈ C) : LoadOk w0 O L C (fun w => ∀ j v, cs[j]? = some v → w.cell? ⟨b, 0 + j, none⟩ = some v) :=
  fun w hS j v hv => by rw [Nat.zero_add]; exact hS.cell hm hv
theorem LoadOk.by {Y : World → Prop} (h : ∀ w, St w0 O C w → Y w) : LoadOk w0 O L C Y := h
theorem WC.drawsL {id : Nat} {l : List Oper} {Fs : List (List Nat × (World → Prop))} (hm : P.follows .mixedOrders = true) (hF : FactsOk w0 O L C Fs)
    (h : WD P w0 O l.toArray Q Fs l.length (Array.replicate l.length false) N D L C) : WC P w0 O (.region id l.toArray true) Q N D L C := WC.draws Fs hm hF h
theorem WQ.say {e : Exit} (i : Nat) (v : Value) (hv : lk L i = some v) (h : WQ w0 O Q e N D ((i, v) :: L) C) : WQ w0 O Q e N D L C := fun a w hF hS => h a w (hF.shadow hv) hS
end
end Go.Eng

namespace Fm
open Go Go.Eng
/-! ### the reference's view of a tree -/
mutual
def rowT : Tree → List Tree
  | .mk op name kids => .mk op name kids :: rowL kids
def rowL : List Tree → List Tree
  | [] => []
  | k :: ks => rowT k ++ rowL ks
end
mutual
def levT : Tree → Nat
  | .mk _ _ kids => levL kids + 1
def levL : List Tree → Nat
  | [] => 0
  | k :: ks => max (levT k) (levL ks)
end
/-- A node as the table of the reference says. -/
def oneB (t : Tree) : Bool :=
  if t.op = 3 then decide (t.kids.length = 0) && isNameB t.name
  else if t.name ≠ [] then false
  else if t.op = 1 ∨ t.op = 2 then decide (t.kids.length = 0)
  else if t.op = 4 then decide (t.kids.length = 1)
  else if t.op = 5 ∨ t.op = 6 ∨ t.op = 7 then decide (2 ≤ t.kids.length)
  else if t.op = 8 ∨ t.op = 9 then decide (t.kids.length = 2)
  else if t.op = 10 then decide (t.kids.length = 3) else false
def refValid (t : Tree) : Bool := (rowT t).all oneB && decide ((rowT t).length ≤ 1000) && decide (levT t ≤ 64)
end Fm

namespace Go.Eng
open Go Go.RowKit
/-! ### a world that keeps an older one -/
structure Ext (wb w : World) : Prop where
  size : wb.heap.size ≤ w.heap.size
  old : ∀ k, k < wb.heap.size → w.heap[k]? = wb.heap[k]?
theorem Ext.refl (w : World) : Ext w w := ⟨Nat.le_refl _, fun _ _ => rfl⟩
theorem Ext.st {wb w0 w : World} {C : List Chunk} (h : Ext wb w0) (hS : St w0 [] C w) : Ext wb w :=
  ⟨Nat.le_trans h.size hS.size, fun k hk => by rw [hS.old k (Nat.lt_of_lt_of_le hk h.size) (by simp)]; exact h.old k hk⟩
theorem Ext.cell {wb w : World} (h : Ext wb w) {p : Addr} {v : Value} (hc : wb.cell? p = some v) : w.cell? p = some v := by
  have := h.old p.block (World.block_lt_of_cell? wb p hc)
  rw [World.cell?_of_block (w := wb) (w' := w) this]; exact hc
theorem Ext.tree {wb w : World} (h : Ext wb w) {t : Tree} {F : List Nat} {v : Value} (hr : rdT wb t F v) : rdT w t F v :=
  rdT_loc (fun k hk => h.old k (rdT_lt hr k hk)) hr
section
variable {P : Program} {w0 : World} {O : List Nat} {ops : Array Oper} {Q : Exit → Act → World → Prop} {N : Nat} {D : List Deferred} {L : FL} {C : List Chunk} {K : Act → World → Prop}
variable {d : Nat} {ty : TypeId} {pos : String} {af : Array Edge}
theorem Yl.maxI {F : World → Prop} {x y : Operand} {k k' : IntKind} {m n : Int} {ts : Array TypeId} (hx : ev L x = some (.int k m)) (hy : ev L y = some (.int k' n)) :
    Yl P N D L F ⟨some d, .call { callee := .builtin .max, args := #[x, y], argTypes := ts }, ty, pos, af, none⟩ (.int k (if n > m then n else m)) := fun a w hF _ => by
  simp [execOp, resolve, invoke, builtin, hF.ev hx, hF.ev hy, Builtin.max_, Builtin.max2]
theorem WL.maxI {x y : Operand} {k k' : IntKind} {m n r : Int} {ts : Array TypeId} (hd : Nat.blt d N = true) (hx : ev L x = some (.int k m)) (hy : ev L y = some (.int k' n)) (hr : (if n > m then n else m) = r)
    (h : WA w0 O K N D ((d, .int k r) :: L) C) :
    WK P w0 O ops Q ⟨some d, .call { callee := .builtin .max, args := #[x, y], argTypes := ts }, ty, pos, af, none⟩ K N D L C := by
  subst hr
  exact WL.y (F := fun _ => True) (Yl.maxI hx hy) hd (fun _ _ => trivial) h
theorem rowc_cells {w : World} {g n cap sz : Nat} {e : TypeId} {xs : List Value} {j : Nat} {u : Value} (h : (rowc (.slice (some ⟨g, 0, none⟩) n cap) n e sz xs).ok w) (hu : xs[j]? = some u) : w.cell? ⟨g, j, none⟩ = some u := by
  have := (show w.ownsRow 0 e sz (.slice (some ⟨g, 0, none⟩) n cap) n xs from h).cells (g := g) rfl j u hu
  rwa [add_blk, Nat.zero_add] at this
end
/-! ### rows of nodes, each read in an older world -/
def NodesOk (wb : World) (ts : List Tree) (vs : List Value) : Prop := vs.length = ts.length ∧ ∀ (i : Nat) (t : Tree) (v : Value), ts[i]? = some t → vs[i]? = some v → ∃ F a c, v = tv t a c ∧ rdT wb t F (tv t a c)
theorem NodesOk.one {wb : World} {t : Tree} {F : List Nat} {a : Option Addr} {c : Nat} (h : rdT wb t F (tv t a c)) : NodesOk wb [t] [tv t a c] := by
  refine ⟨rfl, fun i t' v' h1 h2 => ?_⟩
  cases i with
  | zero => simp at h1 h2; subst h1; subst h2; exact ⟨F, a, c, rfl, h⟩
  | succ i => simp at h1
theorem NodesOk.append {wb : World} {ts us : List Tree} {vs ws : List Value} (h : NodesOk wb ts vs) (h' : NodesOk wb us ws) : NodesOk wb (ts ++ us) (vs ++ ws) := by
  refine ⟨by simp [h.1, h'.1], fun i t v h1 h2 => ?_⟩
  by_cases hi : i < ts.length
  · rw [List.getElem?_append_left hi] at h1
    rw [List.getElem?_append_left (by rw [h.1]; exact hi)] at h2
    exact h.2 i t v h1 h2
  · rw [List.getElem?_append_right (by omega)] at h1
    rw [List.getElem?_append_right (by rw [h.1]; omega), h.1] at h2
    exact h'.2 _ t v h1 h2
theorem NodesOk.at {wb : World} {ts : List Tree} {vs : List Value} {i : Nat} {t : Tree} (h : NodesOk wb ts vs) (hi : ts[i]? = some t) : ∃ F a c, vs[i]? = some (tv t a c) ∧ rdT wb t F (tv t a c) := by
  have hlt : i < vs.length := by rw [h.1]; exact (List.getElem?_eq_some_iff.1 hi).1
  obtain ⟨F, a, c, hv, hr⟩ := h.2 i t vs[i] hi (List.getElem?_eq_getElem hlt)
  exact ⟨F, a, c, by rw [← hv]; exact List.getElem?_eq_getElem hlt, hr⟩
theorem NodesOk.tail {wb : World} {t : Tree} {ts : List Tree} {v : Value} {vs : List Value} (h : NodesOk wb (t :: ts) (v :: vs)) : NodesOk wb ts vs :=
  ⟨by have := h.1; simpa using this, fun i t' v' h1 h2 => h.2 (i + 1) t' v' (by simpa using h1) (by simpa using h2)⟩
end Go.Eng
namespace Fm
open Go Go.Eng
end Fm

namespace Go.Proofs.Ytkgllhkhdjodeaa
open Go Go.Eng Go.Proofs Go.ChangeShapes Go.WideShapes Go.ChangeAt Go.RowKit Go.ChangeMaps

/-! ### what came in is read again behind the call -/
def slicesPos (P : Program) : Bool := (List.range P.types.size).all fun t => match P.underlying t with
  | some (.slice e) => decide (0 < P.cellsOf e)
  | _ => true
theorem slices_pos {P : Program} (h : slicesPos P = true) {t e : TypeId} (ht : t < P.types.size) (hu : P.underlying t = some (.slice e)) : 0 < P.cellsOf e := by
  have := List.all_eq_true.1 h t (List.mem_range.2 ht)
  rw [hu] at this
  simpa using this
theorem try_laid : laidOutB Try.prog = true := by kernel_rfl
theorem try_maps : mapsRowed Try.prog = true := by kernel_rfl
theorem try_slices : slicesPos Try.prog = true := by kernel_rfl
theorem St.same {w w' : World} {C : List Chunk} (h : St w [] C w') (p : MemPlace) (hp : p.block < w.heap.size) : w.sameAt w' p := by
  have := h.old p.block hp (by simp)
  cases p with
  | cell b off => exact World.cell?_of_block (w := w) (w' := w') (a := ⟨b, off, none⟩) this
  | map b => exact this
theorem args_again {H : Type} {enc : TypeId × Value → H} {W W' : World} {C : List Chunk} (hS : St W [] C W') : ∀ {ts : List TypeId} {vs : List Value} {ds : List (DataW H)} {p : List MemPlace}, (∀ t ∈ ts, t < Try.prog.types.size) →
    DataW.TrodAll enc Try.prog W 0 (fun _ => true) true ts vs ds p → DataW.TrodAll enc Try.prog W' 0 (fun b => decide (b < W.heap.size)) true ts vs ds p
  | [], _, _, _, _, h => by
    obtain ⟨rfl, rfl, rfl⟩ := trodAll_nil h
    exact trodAll_mk0
  | t :: ts, _, _, _, ht, h => by
    obtain ⟨v, vs1, d, ds1, a, b, rfl, rfl, rfl, h1, h2⟩ := trodAll_cons h
    refine ⟨a, b, ?_, args_again hS (fun t' h' => ht t' (List.mem_cons_of_mem _ h')) h2, rfl⟩
    obtain ⟨n, hn⟩ := h1
    have hlt := DataW.trod_lt n t _ _ hn
    exact ⟨n, DataW.trod_stays (kids_rows try_laid try_maps) (fun h hu => slices_pos try_slices h hu) (fun h => by cases h) (ht t (List.mem_cons_self ..)) hn (fun p hp => St.same hS p (hlt p hp)) (fun p hp => by simpa using hlt p hp)⟩
/-- The row of a law that answers true and leaves what came in as it was. -/
theorem law_post' {H : Type} {enc : TypeId × Value → H} {f : Func} {s : ChangeSpec} {W W' : World} {args : Array Value} {ds : List (DataW H)} {before : List MemPlace} (hrt : f.resultTypes = #[4]) (hps : ∀ t ∈ f.params.toList, t < Try.prog.types.size) (hv : s.vars = [])
    (hW : DataW.Whole enc Try.prog f.params.toList s.vars false W args.toList ds [] before)
    (hr : (s.fn H ds).results = [.lit (.bool true)]) (ha : (s.fn H ds).args = ds) (hvs : (s.fn H ds).vars = []) (hS : St W [] [] W') :
    s.post enc Try.prog f false true false false W args (.bool true) W' := by
  have hW' := hW
  obtain ⟨p, q, hA, hV, rfl, _, _⟩ := hW
  refine ⟨ds, [], p ++ q, [], p, [], hW', ?_, ?_, ?_, St.kept hS, fun h => by cases h⟩
  · rw [List.append_nil, hr, hrt]
    exact trodAll_mk1 ⟨1, by simp [DataW.trod, Value.cells]⟩
  · rw [List.append_nil, ha]
    exact args_again hS hps hA
  · rw [List.append_nil, hvs, hv]
    rfl

/-! ### a tree that came in -/
theorem und25 : Try.prog.underlying 74 = some (.struct #[⟨"Op", 5, 0, false, "", "", 0⟩, ⟨"Name", 9, 1, false, "", "", 8⟩, ⟨"Kids", 72, 2, false, "", "", 24⟩]) := by kernel_rfl
theorem cells5 : Try.prog.cellsOf 5 = 1 := by kernel_rfl
theorem cell_spot {w : World} {a : Addr} {u : Value} (h : w.cell? a = some u) : a.spot = none := by
  unfold World.cell? at h
  split at h
  · split at h
    · cases h
    · rename_i hs
      cases hh : a.spot with
      | none => rfl
      | some x => rw [hh] at hs; simp at hs
  · cases h
end Go.Proofs.Ytkgllhkhdjodeaa

/-
  Openers of numbers, rows of numbers and rows of such rows that came in.
-/
namespace Go.Proofs.Ytkgllhkhdjodeaa
open Go Go.Eng Go.Proofs Go.ChangeShapes Go.WideShapes Go.ChangeAt Go.RowKit Go.ChangeMaps

theorem und3' : Try.prog.underlying 3 = some (.int .i64) := by kernel_rfl
theorem und54' : Try.prog.underlying 23 = some (.slice 3) := by kernel_rfl
theorem und38' : Try.prog.underlying 33 = some (.slice 23) := by kernel_rfl
theorem cells3' : Try.prog.cellsOf 3 = 1 := by kernel_rfl
theorem cells54' : Try.prog.cellsOf 23 = 1 := by kernel_rfl
section
variable {H : Type} {enc : TypeId × Value → H} {W : World} {base : Nat} {held : Bool}
set_option maxRecDepth 100000 in
theorem open_i64 {sp : Nat → Bool} {v : Value} {d : DataW H} {p : List MemPlace} (hv : Value.okWide Try.prog W .any base 3 v) (h : DataW.Trod enc Try.prog W 0 sp held 3 v d p) :
    ∃ n : Int, v = .int .i64 n ∧ -9223372036854775808 ≤ n ∧ n < 9223372036854775808 := by
  obtain ⟨n, h1, _, _, h4⟩ := open_int und3' hv h
  refine ⟨n, h1, ?_⟩
  have e1 : IntKind.i64.min = -9223372036854775808 := by decide
  have e2 : IntKind.i64.max = 9223372036854775807 := by decide
  simp [Lit.wf, e1, e2] at h4
  omega
theorem rdC_of {c : List Int} {a : Addr} (h : ∀ i, i < c.length → W.cell? (a.add i) = some (.int .i64 (c.getD i 0))) : RdC W c (some a) := by
  intro j x hx
  have hlt := (List.getElem?_eq_some_iff.1 hx).1
  have h1 := h j hlt
  have hs := cell_spot (h 0 (by omega))
  have ha0 : a.add 0 = a := by simp [Addr.add]
  rw [ha0] at hs
  obtain ⟨b, off, spot⟩ := a
  simp only at hs
  subst hs
  rw [add_blk] at h1
  refine ⟨b, off, rfl, ?_⟩
  rw [h1, List.getD_eq_getElem?_getD, hx]; rfl
set_option maxRecDepth 100000 in
theorem open_ll {v : Value} {d : DataW H} {p : List MemPlace} (hv : Value.okWide Try.prog W .any base 33 v) (h : DataW.Trod enc Try.prog W 0 (fun _ => true) held 33 v d p) :
    ∃ (l : List (List Int)) (a : Option Addr) (k : Nat) (us : List Value), v = .slice a l.length k ∧ RdLL W l a us := by
  obtain ⟨a, len, cap, rfl⟩ := okWide_slice und38' hv
  obtain ⟨fuel, hf⟩ := h
  rcases Go.Deep.open_int_rows und38' und54' und3' cells54' cells3' hf with ⟨h1, _⟩ | ⟨a', len', cap', A, L, C, Z, h1, _, hl, _, _, hcell⟩
  · simp [Value.cells] at h1
    obtain ⟨rfl, rfl, rfl⟩ := h1
    exact ⟨[], none, 0, [], rfl, ⟨rfl, fun i u hu => by simp at hu, fun i c u hc => by simp at hc⟩⟩
  · simp [Value.cells] at h1
    obtain ⟨rfl, rfl, rfl⟩ := h1
    refine ⟨(List.range len).map fun r => (Z r).take (L r), some a', cap, (List.range len).map fun r => .slice (A r) (L r) (C r), by simp, ⟨by simp, fun i u hu => ?_, fun i c u hc hu => ?_⟩⟩
    · have hi : i < len := by simpa using (List.getElem?_eq_some_iff.1 hu).1
      obtain ⟨h2, _⟩ := hcell i (by omega)
      have hs := cell_spot (hcell 0 (by omega)).1
      have ha0 : a'.add 0 = a' := by simp [Addr.add]
      rw [ha0] at hs
      obtain ⟨b, off, spot⟩ := a'
      simp only at hs
      subst hs
      rw [add_blk] at h2
      refine ⟨b, off, rfl, ?_⟩
      rw [h2, ← hu]
      simp [hi]
    · have hi : i < len := by simpa using (List.getElem?_eq_some_iff.1 hc).1
      obtain ⟨_, h3, _, h5, _, h7, h8⟩ := hcell i (by omega)
      simp [hi] at hc hu
      subst hc; subst hu
      refine ⟨A i, C i, by simp; omega, ?_⟩
      cases hA : A i with
      | none =>
        have := h7 hA
        intro j x hx
        have := (List.getElem?_eq_some_iff.1 hx).1
        simp at this; omega
      | some a'' =>
        refine rdC_of fun j hj => ?_
        have hj' : j < L i ∧ j < (Z i).length := by (rw [List.length_take] at hj; omega)
        rw [(h8 a'' hA).2 j (by omega), List.getD_eq_getElem?_getD, List.getD_eq_getElem?_getD, List.getElem?_take_of_lt hj'.1]
end
end Go.Proofs.Ytkgllhkhdjodeaa

/-
  More openers: a slice's address; numbers of 32 bits.
-/
namespace Go.Proofs.Ytkgllhkhdjodeaa
open Go Go.Eng Go.Proofs Go.ChangeShapes Go.WideShapes Go.ChangeAt Go.RowKit Go.ChangeMaps
set_option maxRecDepth 100000 in
theorem slice_addr {W : World} {base : Nat} {t e : TypeId} {a : Option Addr} {n c : Nat} (hu : Try.prog.underlying t = some (.slice e)) (hv : Value.okWide Try.prog W .any base t (.slice a n c)) : a = none ∨ ∃ b off, a = some ⟨b, off, none⟩ := by
  cases a with
  | none => exact .inl rfl
  | some a =>
    unfold Value.okWide at hv
    simp only [hu, Cell.okWide, Cell.ok, World.has] at hv
    obtain ⟨b, off, st⟩ := a
    have := hv.2.2.2.1
    simp only at this
    subst this
    exact .inr ⟨b, off, rfl⟩
end Go.Proofs.Ytkgllhkhdjodeaa
