import Derived.Test.YtbippghgkbapnaaM7
import Derived.Test.YtbippghgkbapnaaSpec
import Derived.Test.YtbippghgkbapnaaFacts
set_option linter.unusedSimpArgs false
set_option linter.unusedVariables false
namespace Go.Proofs.Ytbippghgkbapnaa
open Go Go.Eng Go.Proofs
theorem _root_.Go.Eng.St.call3 {w0 w w' : World} {O : List Nat} {C cs : List Chunk} {b c d : Nat} {vb vc vd : List Value} {e1 e2 e3 : TypeId} (h : St w0 O (pt b vb e1 :: pt c vc e2 :: pt d vd e3 :: C) w) (hc : St w [b, c, d] cs w') : St w0 O (cs ++ C) w' := by
  have d1 := List.pairwise_cons.1 h.disj
  have d2 := List.pairwise_cons.1 d1.2
  have d3 := List.pairwise_cons.1 d2.2
  refine h.drop.drop.drop.call hc (fun k hk _ => ?_)
  simp only [List.mem_cons, List.not_mem_nil, or_false] at hk
  rcases hk with rfl | rfl | rfl
  · exact ⟨fun x hx => d1.1 x (by simp [hx]) k rfl, fun hlt => (h.bnd (pt k vb e1) (by simp) k rfl).2 hlt⟩
  · exact ⟨fun x hx => d2.1 x (by simp [hx]) k rfl, fun hlt => (h.bnd (pt k vc e2) (by simp) k rfl).2 hlt⟩
  · exact ⟨fun x hx => d3.1 x hx k rfl, fun hlt => (h.bnd (pt k vd e3) (by simp) k rfl).2 hlt⟩
def ParsePost (w : World) (r : Tree × Nat × Int) (e : Ending) (w' : World) : Prop :=
  ∃ y : List Nat × Option Addr × Nat, e = .returned (.tuple #[tv r.1 y.2.1 y.2.2, .int .i64 (r.2.1 : Int), .int .i64 r.2.2]) ∧ St w [] [own y.1 r.1 (tv r.1 y.2.1 y.2.2)] w'

theorem Parse_c (text : List UInt8) (w : World) : Calls Try.prog 14 [Value.string (str text)].toArray w (ParsePost w (Fm.top text)) := by
  refine enterD Try.func14 rfl Try.ntmps14 rfl (St.init _) ?_
  refine WC.seq ?_
  refine WC.region ?_
  refine WL.step ?_
  refine WL.alloc F.zero25 rfl (fun b2 => ?_)
  refine WL.step ?_
  refine WL.alloc F.zero3 rfl (fun b3 => ?_)
  refine WL.step ?_
  refine WL.alloc F.zero26 rfl (fun b4 => ?_)
  refine WL.nil ?_
  refine WQ.then_normal ?_
  refine WC.seq ?_
  refine WC.seq ?_
  refine WC.region ?_
  refine WL.step ?_
  refine WL.move rfl rfl ?_
  refine WL.step ?_
  refine WL.lenS F.und9 rfl rfl ?_
  refine WL.step ?_
  refine WL.gtI rfl rfl rfl ?_
  refine WL.nil ?_
  refine WQ.then_normal ?_
  refine WC.cond rfl (fun h8 => ?_) (fun h8 => ?_)
  · skip
    have htop : Fm.top text = (Fm.zeroTree, 65536, 5) := by (have h9 : 65536 < text.length := by simp at h8; omega); simp only [Fm.top, h9, if_true]
    refine WC.seq ?_
    refine WC.region ?_
    refine WL.step ?_
    refine WL.build F.stT25 rfl (by repeat (first | exact Built.nil | apply Built.one rfl rfl (by repeat constructor) | apply Built.agg rfl rfl (by repeat constructor))) rfl ?_
    refine WL.step ?_
    refine WL.storeN F.agg25 rfl rfl rfl (by simp [Value.oneCell']) (by repeat (first | exact Upd.here | apply Upd.there)) (by repeat constructor) ?_
    refine WL.step ?_
    refine WL.store1 F.one3 rfl rfl rfl (by repeat (first | exact Upd.here | apply Upd.there)) (by repeat constructor) ?_
    refine WL.step ?_
    refine WL.store1 F.one26 rfl rfl rfl (by repeat (first | exact Upd.here | apply Upd.there)) (by repeat constructor) ?_
    refine WL.nil ?_
    refine WQ.then_normal ?_
    refine WC.ret ?_
    refine WQ.then_ret ?_
    refine WQ.ret0 rfl (rs := [.cell 2 25, .cell 3 3, .cell 4 26]) (.cellN F.agg25 rfl (by repeat (first | exact List.Mem.head _ | apply List.Mem.tail)) rfl (.cell1 F.one3 rfl (by repeat (first | exact List.Mem.head _ | apply List.Mem.tail)) rfl (.cell1 F.one26 rfl (by repeat (first | exact List.Mem.head _ | apply List.Mem.tail)) rfl .nil))) (fun w hS => ?_)
    rw [htop]
    exact ⟨([], none, 0), rfl, (St.node0 0 [] hS).one1⟩
  · skip
    have hl8 : ¬ 65536 < text.length := by simp at h8; omega
    have hmax : text.length ≤ 140737488355328 := by omega
    have hmax2 : text.length ≤ 1099511627776 := by omega
    refine WC.skip ?_
    refine WQ.then_normal ?_
    refine WC.seq ?_
    refine WC.region ?_
    refine WL.step ?_
    refine WL.makeFunc rfl rfl rfl ?_
    refine WL.step ?_
    refine WL.defer (us := []) (cap := [pp b2, pp b3, pp b4]) rfl ?_
    refine WL.nil ?_
    refine WQ.then_normal ?_
    refine WC.seq ?_
    refine WC.region ?_
    refine WL.step ?_
    refine WL.move rfl rfl ?_
    refine WL.step ?_
    refine WL.build F.stT76 rfl (by repeat (first | exact Built.nil | apply Built.one rfl rfl (by repeat constructor) | apply Built.agg rfl rfl (by repeat constructor))) rfl ?_
    refine WL.step ?_
    refine WL.boxN rfl rfl (fun b13 => ?_)
    refine WL.step ?_
    refine WL.assign rfl rfl ?_
    refine WL.nil ?_
    refine WQ.then_normal ?_
    refine WC.seq ?_
    rcases hn : Fm.next text 0 [] with ⟨a, x⟩ | a
    · skip
      have hN := fun w hp => next_c b13 text [] 0 (by simp) hmax w hp
      rw [hn] at hN
      have hle := (Fm.next_le (by simp) hn).2
      obtain ⟨r, hr⟩ := Fm.parse_total (Fm.fuel text) .choice a x hle (by simp only [Fm.rank, Fm.fuel]; omega)
      refine WC.region ?_
      refine WL.step ?_
      refine WL.move rfl rfl ?_
      refine WL.step ?_
      refine WL.call1S (bs := pcell text 0 []) (bs' := pcell text a x) F.fun46 rfl rfl (by repeat (first | exact Rem.here | apply Rem.there)) (fun w hS => hN w (hS.heap (by repeat (first | exact List.Mem.head _ | apply List.Mem.tail)))) ?_
      refine WL.nil ?_
      refine WQ.then_normal ?_
      refine WC.seq ?_
      rcases r with ⟨t1, b1, x1⟩ | b1
      · skip
        have hC := fun w hp => (pc_all b13 text hmax2 _).ch a x _ w hle hr hp
        refine WC.region ?_
        refine WL.step ?_
        refine WL.move rfl rfl ?_
        refine WL.step ?_
        refine WL.call1A (res := fun y : List Nat × Option Addr × Nat => tv t1 y.2.1 y.2.2) (c1 := fun y : List Nat × Option Addr × Nat => own y.1 t1 (tv t1 y.2.1 y.2.2)) (c2 := fun _ => pt b13 (pcell text b1 x1) 76) (bs := pcell text a x) F.fun47 rfl rfl (by repeat (first | exact Rem.here | apply Rem.there)) (fun w hS => hC w (hS.heap (by repeat (first | exact List.Mem.head _ | apply List.Mem.tail)))) (fun y17 => ?_)
        refine WL.step ?_
        refine WL.storeN F.agg25 rfl rfl rfl (by simp [Value.oneCell']) (by repeat (first | exact Upd.here | apply Upd.there)) (by repeat constructor) ?_
        refine WL.nil ?_
        refine WQ.then_normal ?_
        refine WC.seq ?_
        refine WC.seq ?_
        refine WC.region ?_
        refine WL.step ?_
        refine WL.move rfl rfl ?_
        refine WL.step ?_
        refine WL.nilCheck rfl rfl ?_
        refine WL.step ?_
        refine WL.fieldAddr0 F.fld76_2 rfl rfl ?_
        refine WL.step ?_
        refine WL.loadP F.one9 rfl rfl (by repeat (first | exact List.Mem.head _ | apply List.Mem.tail)) rfl ?_
        refine WL.step ?_
        refine WL.neS rfl rfl rfl ?_
        refine WL.nil ?_
        refine WQ.then_normal ?_
        refine WC.cond rfl (fun h22 => ?_) (fun h22 => ?_)
        · skip
          have hx : x1 ≠ [] := by simpa using h22
          have htop : Fm.top text = (Fm.zeroTree, b1, 4) := by simp only [Fm.top, hl8, if_false, hn, hr, hx, ne_eq, not_false_eq_true, if_true]
          refine WC.region ?_
          refine WL.step ?_
          refine WL.move rfl rfl ?_
          refine WL.step ?_
          refine WL.nilCheck rfl rfl ?_
          refine WL.step ?_
          refine WL.fieldAddr0 F.fld76_1 rfl rfl ?_
          refine WL.step ?_
          refine WL.loadP F.one3 rfl rfl (by repeat (first | exact List.Mem.head _ | apply List.Mem.tail)) rfl ?_
          refine WL.step ?_
          refine WL.build F.stT72 rfl (by repeat (first | exact Built.nil | apply Built.one rfl rfl (by repeat constructor) | apply Built.agg rfl rfl (by repeat constructor))) rfl ?_
          refine WL.step ?_
          refine WL.makeIface F.conc72 rfl rfl ?_
          refine WL.step ?_
          refine WL.panic rfl ?_
          refine WQ.then_panic ?_
          refine WQ.panicD (g := 45) (us := []) (cap := [pp b2, pp b3, pp b4]) (C2 := [pt b2 [Value.int .u8 0, .string (str []), .slice none 0 0] 25, pt b3 [.int .i64 (b1 : Int)] 3, pt b4 [.int .i64 4] 26]) (v := .tuple #[]) (ch2 := [{ v := .iface 72 (.agg #[.int .i64 (b1 : Int)]), recovered := true }]) F.fun45 (fun w hS => ?_) rfl (rs := [.cell 2 25, .cell 3 3, .cell 4 26]) rfl (.cellN F.agg25 rfl (by repeat (first | exact List.Mem.head _ | apply List.Mem.tail)) rfl (.cell1 F.one3 rfl (by repeat (first | exact List.Mem.head _ | apply List.Mem.tail)) rfl (.cell1 F.one26 rfl (by repeat (first | exact List.Mem.head _ | apply List.Mem.tail)) rfl .nil))) (fun w hS => ?_)
          · refine (catch_trouble b2 b3 b4 b1 _ _ _ (St.ne2 (St.pick (St.pick hS (c := pt b3 [.int .i64 0] 3) (by repeat (first | exact Rem.here | apply Rem.there))) (c := pt b2 [Value.int .u8 t1.op, .string (str t1.name), .slice y17.2.1 t1.kids.length y17.2.2] 25) (by repeat (first | exact Rem.here | apply Rem.there)))) (St.ne2 (St.pick (St.pick hS (c := pt b4 [.int .i64 0] 26) (by repeat (first | exact Rem.here | apply Rem.there))) (c := pt b2 [Value.int .u8 t1.op, .string (str t1.name), .slice y17.2.1 t1.kids.length y17.2.2] 25) (by repeat (first | exact Rem.here | apply Rem.there)))) (St.ne2 (St.pick (St.pick hS (c := pt b4 [.int .i64 0] 26) (by repeat (first | exact Rem.here | apply Rem.there))) (c := pt b3 [.int .i64 0] 3) (by repeat (first | exact Rem.here | apply Rem.there)))) rfl rfl rfl w (hS.heap (cs := [Value.int .u8 t1.op, .string (str t1.name), .slice y17.2.1 t1.kids.length y17.2.2]) (by repeat (first | exact List.Mem.head _ | apply List.Mem.tail))) (hS.heap (cs := [.int .i64 0]) (by repeat (first | exact List.Mem.head _ | apply List.Mem.tail))) (hS.heap (cs := [.int .i64 0]) (by repeat (first | exact List.Mem.head _ | apply List.Mem.tail)))).mono (fun e u2 w2 h => ⟨h.1, h.2.1, ?_⟩)
            exact (St.call3 (St.pick (St.pick (St.pick hS (c := pt b4 [.int .i64 0] 26) (by repeat (first | exact Rem.here | apply Rem.there))) (c := pt b3 [.int .i64 0] 3) (by repeat (first | exact Rem.here | apply Rem.there))) (c := pt b2 [Value.int .u8 t1.op, .string (str t1.name), .slice y17.2.1 t1.kids.length y17.2.2] 25) (by repeat (first | exact Rem.here | apply Rem.there))) h.2.2).sublist (List.sublist_append_left _ _)
          · rw [htop]
            exact ⟨([], none, 0), rfl, (St.node0 0 [] hS).one1⟩
        · skip
          have hx : x1 = [] := by simpa using h22
          refine WC.skip ?_
          refine WQ.then_normal ?_
          refine WC.seq ?_
          refine WC.seq ?_
          refine WC.region ?_
          refine WL.step ?_
          refine WL.loadW F.agg25 rfl rfl (by repeat (first | exact List.Mem.head _ | apply List.Mem.tail)) rfl ?_
          refine WL.step ?_
          refine WL.callV F.fun30 rfl rfl (fun w hS => Valid_c t1 y17.1 _ _ w (hS.ok (own y17.1 t1 (tv t1 y17.2.1 y17.2.2)) (by repeat (first | exact List.Mem.head _ | apply List.Mem.tail))).2) ?_
          refine WL.step ?_
          refine WL.not rfl rfl ?_
          refine WL.nil ?_
          refine WQ.then_normal ?_
          refine WC.cond rfl (fun h31 => ?_) (fun h31 => ?_)
          · skip
            have hv : Fm.validB t1 = false := by simpa using h31
            have htop : Fm.top text = (Fm.zeroTree, text.length, 5) := by simp only [Fm.top, hl8, if_false, hn, hr, hx, ne_eq, not_true_eq_false, hv, Bool.false_eq_true]
            refine WC.seq ?_
            refine WC.region ?_
            refine WL.step ?_
            refine WL.build F.stT25 rfl (by repeat (first | exact Built.nil | apply Built.one rfl rfl (by repeat constructor) | apply Built.agg rfl rfl (by repeat constructor))) rfl ?_
            refine WL.step ?_
            refine WL.move rfl rfl ?_
            refine WL.step ?_
            refine WL.lenS F.und9 rfl rfl ?_
            refine WL.step ?_
            refine WL.storeN F.agg25 rfl rfl rfl (by simp [Value.oneCell']) (by repeat (first | exact Upd.here | apply Upd.there)) (by repeat constructor) ?_
            refine WL.step ?_
            refine WL.store1 F.one3 rfl rfl rfl (by repeat (first | exact Upd.here | apply Upd.there)) (by repeat constructor) ?_
            refine WL.step ?_
            refine WL.store1 F.one26 rfl rfl rfl (by repeat (first | exact Upd.here | apply Upd.there)) (by repeat constructor) ?_
            refine WL.nil ?_
            refine WQ.then_normal ?_
            refine WC.ret ?_
            refine WQ.then_ret ?_
            refine WQ.retD (g := 45) (us := []) (cap := [pp b2, pp b3, pp b4]) F.fun45 (fun w hS => (catch_idle b2 b3 b4 w).mono (fun e u2 w2 h => ⟨h.1, h.2.1, hS.call0 h.2.2⟩)) rfl (rs := [.cell 2 25, .cell 3 3, .cell 4 26]) (.cellN F.agg25 rfl (by repeat (first | exact List.Mem.head _ | apply List.Mem.tail)) rfl (.cell1 F.one3 rfl (by repeat (first | exact List.Mem.head _ | apply List.Mem.tail)) rfl (.cell1 F.one26 rfl (by repeat (first | exact List.Mem.head _ | apply List.Mem.tail)) rfl .nil))) (fun w hS => ?_)
            rw [htop]
            exact ⟨([], none, 0), rfl, (St.node0 0 [] hS).one1⟩
          · skip
            have hv : Fm.validB t1 = true := by simpa using h31
            have htop : Fm.top text = (t1, 0, 0) := by simp only [Fm.top, hl8, if_false, hn, hr, hx, ne_eq, not_true_eq_false, hv, if_true]
            refine WC.skip ?_
            refine WQ.then_normal ?_
            refine WC.seq ?_
            refine WC.region ?_
            refine WL.step ?_
            refine WL.loadW F.agg25 rfl rfl (by repeat (first | exact List.Mem.head _ | apply List.Mem.tail)) rfl ?_
            refine WL.step ?_
            refine WL.storeN F.agg25 rfl rfl rfl (by simp [Value.oneCell']) (by repeat (first | exact Upd.here | apply Upd.there)) (by repeat constructor) ?_
            refine WL.step ?_
            refine WL.store1 F.one3 rfl rfl rfl (by repeat (first | exact Upd.here | apply Upd.there)) (by repeat constructor) ?_
            refine WL.step ?_
            refine WL.store1 F.one26 rfl rfl rfl (by repeat (first | exact Upd.here | apply Upd.there)) (by repeat constructor) ?_
            refine WL.nil ?_
            refine WQ.then_normal ?_
            refine WC.ret ?_
            refine WQ.retD (g := 45) (us := []) (cap := [pp b2, pp b3, pp b4]) F.fun45 (fun w hS => (catch_idle b2 b3 b4 w).mono (fun e u2 w2 h => ⟨h.1, h.2.1, hS.call0 h.2.2⟩)) rfl (rs := [.cell 2 25, .cell 3 3, .cell 4 26]) (.cellN F.agg25 rfl (by repeat (first | exact List.Mem.head _ | apply List.Mem.tail)) rfl (.cell1 F.one3 rfl (by repeat (first | exact List.Mem.head _ | apply List.Mem.tail)) rfl (.cell1 F.one26 rfl (by repeat (first | exact List.Mem.head _ | apply List.Mem.tail)) rfl .nil))) (fun w hS => ?_)
            rw [htop]
            exact ⟨y17, rfl, (St.pick hS (c := own y17.1 t1 (tv t1 y17.2.1 y17.2.2)) (by repeat (first | exact Rem.here | apply Rem.there))).one1⟩
      · skip
        have hC := fun w hp => (pc_all b13 text hmax2 _).ch a x _ w hle hr hp
        have htop : Fm.top text = (Fm.zeroTree, b1, 4) := by simp only [Fm.top, hl8, if_false, hn, hr]
        refine WC.region ?_
        refine WL.step ?_
        refine WL.move rfl rfl ?_
        refine WL.step ?_
        refine WL.call1P (bs := pcell text a x) F.fun47 (fun d h => by cases h; rfl) rfl (by repeat (first | exact Rem.here | apply Rem.there)) (fun w hS => hC w (hS.heap (by repeat (first | exact List.Mem.head _ | apply List.Mem.tail)))) (fun cs => ?_)
        refine WQ.then_panic ?_
        refine WQ.panicD (g := 45) (us := []) (cap := [pp b2, pp b3, pp b4]) (C2 := [pt b2 [Value.int .u8 0, .string (str []), .slice none 0 0] 25, pt b3 [.int .i64 (b1 : Int)] 3, pt b4 [.int .i64 4] 26]) (v := .tuple #[]) (ch2 := [{ v := .iface 72 (.agg #[.int .i64 (b1 : Int)]), recovered := true }]) F.fun45 (fun w hS => ?_) rfl (rs := [.cell 2 25, .cell 3 3, .cell 4 26]) rfl (.cellN F.agg25 rfl (by repeat (first | exact List.Mem.head _ | apply List.Mem.tail)) rfl (.cell1 F.one3 rfl (by repeat (first | exact List.Mem.head _ | apply List.Mem.tail)) rfl (.cell1 F.one26 rfl (by repeat (first | exact List.Mem.head _ | apply List.Mem.tail)) rfl .nil))) (fun w hS => ?_)
        · refine (catch_trouble b2 b3 b4 b1 _ _ _ (St.ne2 (St.pick (St.pick hS (c := pt b3 [.int .i64 0] 3) (by repeat (first | exact Rem.here | apply Rem.there))) (c := pt b2 [Value.int .u8 0, .string (str []), .slice none 0 0] 25) (by repeat (first | exact Rem.here | apply Rem.there)))) (St.ne2 (St.pick (St.pick hS (c := pt b4 [.int .i64 0] 26) (by repeat (first | exact Rem.here | apply Rem.there))) (c := pt b2 [Value.int .u8 0, .string (str []), .slice none 0 0] 25) (by repeat (first | exact Rem.here | apply Rem.there)))) (St.ne2 (St.pick (St.pick hS (c := pt b4 [.int .i64 0] 26) (by repeat (first | exact Rem.here | apply Rem.there))) (c := pt b3 [.int .i64 0] 3) (by repeat (first | exact Rem.here | apply Rem.there)))) rfl rfl rfl w (hS.heap (cs := [Value.int .u8 0, .string (str []), .slice none 0 0]) (by repeat (first | exact List.Mem.head _ | apply List.Mem.tail))) (hS.heap (cs := [.int .i64 0]) (by repeat (first | exact List.Mem.head _ | apply List.Mem.tail))) (hS.heap (cs := [.int .i64 0]) (by repeat (first | exact List.Mem.head _ | apply List.Mem.tail)))).mono (fun e u2 w2 h => ⟨h.1, h.2.1, ?_⟩)
          exact (St.call3 (St.pick (St.pick (St.pick hS (c := pt b4 [.int .i64 0] 26) (by repeat (first | exact Rem.here | apply Rem.there))) (c := pt b3 [.int .i64 0] 3) (by repeat (first | exact Rem.here | apply Rem.there))) (c := pt b2 [Value.int .u8 0, .string (str []), .slice none 0 0] 25) (by repeat (first | exact Rem.here | apply Rem.there))) h.2.2).sublist (List.sublist_append_left _ _)
        · rw [htop]
          exact ⟨([], none, 0), rfl, (St.node0 0 [] hS).one1⟩
    · skip
      have hN := fun w hp => next_c b13 text [] 0 (by simp) hmax w hp
      rw [hn] at hN
      have htop : Fm.top text = (Fm.zeroTree, a, 4) := by simp only [Fm.top, hl8, if_false, hn]
      refine WC.region ?_
      refine WL.step ?_
      refine WL.move rfl rfl ?_
      refine WL.step ?_
      refine WL.call1P (bs := pcell text 0 []) F.fun46 (fun d h => by cases h; rfl) rfl (by repeat (first | exact Rem.here | apply Rem.there)) (fun w hS => hN w (hS.heap (by repeat (first | exact List.Mem.head _ | apply List.Mem.tail)))) (fun cs => ?_)
      refine WQ.then_panic ?_
      refine WQ.panicD (g := 45) (us := []) (cap := [pp b2, pp b3, pp b4]) (C2 := [pt b2 [Value.int .u8 0, .string (str []), .slice none 0 0] 25, pt b3 [.int .i64 (a : Int)] 3, pt b4 [.int .i64 4] 26]) (v := .tuple #[]) (ch2 := [{ v := .iface 72 (.agg #[.int .i64 (a : Int)]), recovered := true }]) F.fun45 (fun w hS => ?_) rfl (rs := [.cell 2 25, .cell 3 3, .cell 4 26]) rfl (.cellN F.agg25 rfl (by repeat (first | exact List.Mem.head _ | apply List.Mem.tail)) rfl (.cell1 F.one3 rfl (by repeat (first | exact List.Mem.head _ | apply List.Mem.tail)) rfl (.cell1 F.one26 rfl (by repeat (first | exact List.Mem.head _ | apply List.Mem.tail)) rfl .nil))) (fun w hS => ?_)
      · refine (catch_trouble b2 b3 b4 a _ _ _ (St.ne2 (St.pick (St.pick hS (c := pt b3 [.int .i64 0] 3) (by repeat (first | exact Rem.here | apply Rem.there))) (c := pt b2 [Value.int .u8 0, .string (str []), .slice none 0 0] 25) (by repeat (first | exact Rem.here | apply Rem.there)))) (St.ne2 (St.pick (St.pick hS (c := pt b4 [.int .i64 0] 26) (by repeat (first | exact Rem.here | apply Rem.there))) (c := pt b2 [Value.int .u8 0, .string (str []), .slice none 0 0] 25) (by repeat (first | exact Rem.here | apply Rem.there)))) (St.ne2 (St.pick (St.pick hS (c := pt b4 [.int .i64 0] 26) (by repeat (first | exact Rem.here | apply Rem.there))) (c := pt b3 [.int .i64 0] 3) (by repeat (first | exact Rem.here | apply Rem.there)))) rfl rfl rfl w (hS.heap (cs := [Value.int .u8 0, .string (str []), .slice none 0 0]) (by repeat (first | exact List.Mem.head _ | apply List.Mem.tail))) (hS.heap (cs := [.int .i64 0]) (by repeat (first | exact List.Mem.head _ | apply List.Mem.tail))) (hS.heap (cs := [.int .i64 0]) (by repeat (first | exact List.Mem.head _ | apply List.Mem.tail)))).mono (fun e u2 w2 h => ⟨h.1, h.2.1, ?_⟩)
        exact (St.call3 (St.pick (St.pick (St.pick hS (c := pt b4 [.int .i64 0] 26) (by repeat (first | exact Rem.here | apply Rem.there))) (c := pt b3 [.int .i64 0] 3) (by repeat (first | exact Rem.here | apply Rem.there))) (c := pt b2 [Value.int .u8 0, .string (str []), .slice none 0 0] 25) (by repeat (first | exact Rem.here | apply Rem.there))) h.2.2).sublist (List.sublist_append_left _ _)
      · rw [htop]
        exact ⟨([], none, 0), rfl, (St.node0 0 [] hS).one1⟩

end Go.Proofs.Ytbippghgkbapnaa
