import Derived.Test.YtbippghgkbapnaaM3
import Derived.Test.YtbippghgkbapnaaSpec
import Derived.Test.YtbippghgkbapnaaFacts
namespace Go.Proofs.Ytbippghgkbapnaa
open Go Go.Eng Go.Proofs
theorem _root_.Go.Eng.St.one1 {w0 w : World} {O : List Nat} {c : Chunk} {C : List Chunk} (h : St w0 O (c :: C) w) : St w0 O [c] w := h.sublist (List.Sublist.cons_cons _ (List.nil_sublist _))
theorem _root_.Go.Eng.St.two2 {w0 w : World} {O : List Nat} {c d : Chunk} {C : List Chunk} (h : St w0 O (c :: d :: C) w) : St w0 O [c, d] w := h.sublist (List.Sublist.cons_cons _ (List.Sublist.cons_cons _ (List.nil_sublist _)))
def PC (bp : Nat) (text : List UInt8) (f : Nat) (args : List Value) (nt : Fm.NT) (n : Nat) : Prop :=
  ∀ a x r w, a + x.length ≤ text.length → Fm.parse text n nt a x = some r → w.heap[bp]? = some (.cells (pcell text a x).toArray 76 (0, 0)) → Calls Try.prog f args.toArray w (PRpost bp text w r)
abbrev pp (bp : Nat) : Value := .pointer (some ⟨bp, 0, none⟩)

theorem implies_c (bp : Nat) (text : List UInt8) (hmax : text.length ≤ 140737488355328) (n : Nat) (hsub : PC bp text 112 [pp bp, .int .i64 0] (.row 0) n) (hrec : PC bp text 105 [pp bp] .implies n) :
    PC bp text 105 [pp bp] .implies (n + 1) := by
  intro a x r w hle hr hp
  simp only [Fm.parse] at hr
  refine enter Try.func105 rfl Try.ntmps105 rfl (St.init1 hp) ?_
  refine WC.seq ?_
  refine WC.region ?_
  refine WL.step ?_
  refine WL.alloc F.zero25 rfl (fun b2 => ?_)
  refine WL.nil ?_
  refine WQ.then_normal ?_
  refine WC.seq ?_
  rcases Fm.bindP_ok hr with ⟨a1, h1, rfl⟩ | ⟨t1, a1, x1, h1, hr1⟩
  · skip
    have hN := fun w hp => hsub _ _ _ w hle h1 hp
    refine WC.region ?_
    refine WL.step ?_
    refine WL.move rfl rfl ?_
    refine WL.step ?_
    refine WL.call1P (bs := pcell text a x) F.fun112 (fun d h => by cases h; rfl) rfl (by repeat (first | exact Rem.here | apply Rem.there)) (fun w hS => hN w (hS.heap (by repeat (first | exact List.Mem.head _ | apply List.Mem.tail)))) (fun cs => ?_)
    refine WQ.then_panic ?_
    refine WQ.panicked (fun w hS => ?_)
    exact ⟨rfl, _, (St.pick hS (c := pt bp cs 76) (by repeat (first | exact Rem.here | apply Rem.there))).one1⟩
  · skip
    have hN := fun w hp => hsub _ _ _ w hle h1 hp
    have g1 := Fm.parse_le _ _ _ _ _ _ _ hle h1
    refine WC.region ?_
    refine WL.step ?_
    refine WL.move rfl rfl ?_
    refine WL.step ?_
    refine WL.call1A (res := fun y : List Nat × Option Addr × Nat => tv t1 y.2.1 y.2.2) (c1 := fun y : List Nat × Option Addr × Nat => own y.1 t1 (tv t1 y.2.1 y.2.2)) (c2 := fun _ => pt bp (pcell text a1 x1) 76) (bs := pcell text a x) F.fun112 rfl rfl (by repeat (first | exact Rem.here | apply Rem.there)) (fun w hS => hN w (hS.heap (by repeat (first | exact List.Mem.head _ | apply List.Mem.tail)))) (fun y5 => ?_)
    refine WL.step ?_
    refine WL.alloc F.zero25 rfl (fun b3 => ?_)
    refine WL.step ?_
    refine WL.storeN F.agg25 rfl rfl rfl (by simp [Value.oneCell']) (by repeat (first | exact Upd.here | apply Upd.there)) (by repeat constructor) ?_
    refine WL.nil ?_
    refine WQ.then_normal ?_
    refine WC.seq ?_
    refine WC.seq ?_
    rcases Fm.bindT_ok hr1 with ⟨ht, hr2⟩ | ⟨a2, x2, ht, hr2⟩ | ⟨a2, ht, rfl⟩
    · skip
      have hT := fun w hp => takes_c bp text x1 [61, 62] a1 g1.2 hmax w hp
      rw [ht] at hT
      injection hr2 with hr2
      subst hr2
      refine WC.region ?_
      refine WL.step ?_
      refine WL.move rfl rfl ?_
      refine WL.step ?_
      refine WL.call1S (bs := pcell text a1 x1) (bs' := pcell text a1 x1) F.fun86 rfl rfl (by repeat (first | exact Rem.here | apply Rem.there)) (fun w hS => hT w (hS.heap (by repeat (first | exact List.Mem.head _ | apply List.Mem.tail)))) ?_
      refine WL.step ?_
      refine WL.not rfl rfl ?_
      refine WL.nil ?_
      refine WQ.then_normal ?_
      refine WC.condT rfl ?_
      refine WC.seq ?_
      refine WC.region ?_
      refine WL.step ?_
      refine WL.loadW F.agg25 rfl rfl (by repeat (first | exact List.Mem.head _ | apply List.Mem.tail)) rfl ?_
      refine WL.step ?_
      refine WL.storeN F.agg25 rfl rfl rfl (by simp [Value.oneCell']) (by repeat (first | exact Upd.here | apply Upd.there)) (by repeat constructor) ?_
      refine WL.nil ?_
      refine WQ.then_normal ?_
      refine WC.ret ?_
      refine WQ.then_ret ?_
      refine WQ.ret (rs := [.cell 2 25]) rfl (.cellN F.agg25 rfl (by repeat (first | exact List.Mem.head _ | apply List.Mem.tail)) rfl .nil) (fun w hS => ?_)
      exact ⟨y5, rfl, (St.pick (St.pick hS (c := pt bp (pcell text a1 x1) 76) (by repeat (first | exact Rem.here | apply Rem.there))) (c := own y5.1 t1 (tv t1 y5.2.1 y5.2.2)) (by repeat (first | exact Rem.here | apply Rem.there))).two2⟩
    · skip
      have hT := fun w hp => takes_c bp text x1 [61, 62] a1 g1.2 hmax w hp
      rw [ht] at hT
      have g2 := Fm.takes_le g1.2 ht
      refine WC.region ?_
      refine WL.step ?_
      refine WL.move rfl rfl ?_
      refine WL.step ?_
      refine WL.call1S (bs := pcell text a1 x1) (bs' := pcell text a2 x2) F.fun86 rfl rfl (by repeat (first | exact Rem.here | apply Rem.there)) (fun w hS => hT w (hS.heap (by repeat (first | exact List.Mem.head _ | apply List.Mem.tail)))) ?_
      refine WL.step ?_
      refine WL.not rfl rfl ?_
      refine WL.nil ?_
      refine WQ.then_normal ?_
      refine WC.condF rfl ?_
      refine WC.skip ?_
      refine WQ.then_normal ?_
      refine WC.seq ?_
      rcases Fm.bindP_ok hr2 with ⟨a3, h3, rfl⟩ | ⟨t2, a3, x3, h3, hr3⟩
      · skip
        have hM := fun w hp => hrec _ _ _ w g2.2 h3 hp
        refine WC.draws [([3, 4, 5], fun w => ∀ j v, [Value.int .u8 t1.op, .string (str t1.name), .slice y5.2.1 t1.kids.length y5.2.2][j]? = some v → w.cell? ⟨b3, 0 + j, none⟩ = some v)] (by kernel_rfl) (fun w hS => facts_cons (fun j v hv => by rw [Nat.zero_add]; exact hS.cell (by repeat (first | exact List.Mem.head _ | apply List.Mem.tail)) hv) (facts_nil)) ?_
        refine WD.take (i := 0) rfl rfl rfl rfl (by kernel_rfl) (by kernel_rfl) (by kernel_rfl) (fun _ _ _ h => h) (by kernel_rfl) (need_at 0 6 rfl (by kernel_rfl)) (Yl.loadN F.agg25 rfl rfl) ?_
        refine WD.take (i := 1) rfl rfl rfl rfl (by kernel_rfl) (by kernel_rfl) (by kernel_rfl) (fun _ _ _ h => h) (by kernel_rfl) need_none (Yl.move rfl) ?_
        refine WD.one (i := 2) (by kernel_rfl) rfl ?_
        refine WL.call1P (bs := pcell text a2 x2) F.fun105 (fun d h => by cases h; rfl) rfl (by repeat (first | exact Rem.here | apply Rem.there)) (fun w hS => hM w (hS.heap (by repeat (first | exact List.Mem.head _ | apply List.Mem.tail)))) (fun cs => ?_)
        refine WQ.then_panic ?_
        refine WQ.panicked (fun w hS => ?_)
        exact ⟨rfl, _, (St.pick hS (c := pt bp cs 76) (by repeat (first | exact Rem.here | apply Rem.there))).one1⟩
      · skip
        have hM := fun w hp => hrec _ _ _ w g2.2 h3 hp
        injection hr3 with hr3
        subst hr3
        refine WC.draws [([3, 4, 5], fun w => ∀ j v, [Value.int .u8 t1.op, .string (str t1.name), .slice y5.2.1 t1.kids.length y5.2.2][j]? = some v → w.cell? ⟨b3, 0 + j, none⟩ = some v)] (by kernel_rfl) (fun w hS => facts_cons (fun j v hv => by rw [Nat.zero_add]; exact hS.cell (by repeat (first | exact List.Mem.head _ | apply List.Mem.tail)) hv) (facts_nil)) ?_
        refine WD.take (i := 0) rfl rfl rfl rfl (by kernel_rfl) (by kernel_rfl) (by kernel_rfl) (fun _ _ _ h => h) (by kernel_rfl) (need_at 0 6 rfl (by kernel_rfl)) (Yl.loadN F.agg25 rfl rfl) ?_
        refine WD.take (i := 1) rfl rfl rfl rfl (by kernel_rfl) (by kernel_rfl) (by kernel_rfl) (fun _ _ _ h => h) (by kernel_rfl) need_none (Yl.move rfl) ?_
        refine WD.one (i := 2) (by kernel_rfl) rfl ?_
        refine WL.call1A (res := fun y : List Nat × Option Addr × Nat => tv t2 y.2.1 y.2.2) (c1 := fun y : List Nat × Option Addr × Nat => own y.1 t2 (tv t2 y.2.1 y.2.2)) (c2 := fun _ => pt bp (pcell text a3 x3) 76) (bs := pcell text a2 x2) F.fun105 rfl rfl (by repeat (first | exact Rem.here | apply Rem.there)) (fun w hS => hM w (hS.heap (by repeat (first | exact List.Mem.head _ | apply List.Mem.tail)))) (fun y12 => ?_)
        refine WD.on (closed_of (by kernel_rfl)) (fun w hS => Sx.keep (fun j v hv => by rw [Nat.zero_add]; exact hS.cell (by repeat (first | exact List.Mem.head _ | apply List.Mem.tail)) hv) (Sx.none)) ?_
        refine WD.one (i := 3) (by kernel_rfl) rfl ?_
        refine WL.buildSlice F.sl23 F.ez23 rfl rfl rfl rfl (by repeat (first | exact Built.nil | apply Built.one rfl rfl (by repeat constructor) | apply Built.agg rfl rfl (by repeat constructor))) rfl (fun b13 => ?_)
        refine WD.on (closed_of (by kernel_rfl)) (fun w hS => Sx.gone rfl (Sx.none)) ?_
        refine WD.one (i := 4) (by kernel_rfl) rfl ?_
        refine WL.callV F.fun88 rfl rfl (fun w _ => node_c _ _ _ _ w) ?_
        refine WD.on (closed_of (by kernel_rfl)) (fun w hS => Sx.gone rfl (Sx.none)) ?_
        refine WD.one (i := 5) (by kernel_rfl) rfl ?_
        refine WL.storeN F.agg25 rfl rfl rfl (by simp [Value.oneCell']) (by repeat (first | exact Upd.here | apply Upd.there)) (by repeat constructor) ?_
        refine WD.on (closed_of (by kernel_rfl)) (fun w hS => Sx.gone rfl (Sx.none)) ?_
        refine WD.done (by kernel_rfl) ?_
        refine WQ.then_normal ?_
        refine WC.ret ?_
        refine WQ.ret (rs := [.cell 2 25]) rfl (.cellN F.agg25 rfl (by repeat (first | exact List.Mem.head _ | apply List.Mem.tail)) rfl .nil) (fun w hS => ?_)
        obtain ⟨F, h⟩ := St.node2 8 (St.pick (St.pick (St.pick (St.pick hS (c := pt bp (pcell text a3 x3) 76) (by repeat (first | exact Rem.here | apply Rem.there))) (c := own y12.1 t2 (tv t2 y12.2.1 y12.2.2)) (by repeat (first | exact Rem.here | apply Rem.there))) (c := own y5.1 t1 (tv t1 y5.2.1 y5.2.2)) (by repeat (first | exact Rem.here | apply Rem.there))) (c := pt b13 [.int .u8 t1.op, .string (str t1.name), .slice y5.2.1 t1.kids.length y5.2.2, .int .u8 t2.op, .string (str t2.name), .slice y12.2.1 t2.kids.length y12.2.2] 25) (by repeat (first | exact Rem.here | apply Rem.there)))
        exact ⟨(F, _, _), rfl, h.two2⟩
    · skip
      have hT := fun w hp => takes_c bp text x1 [61, 62] a1 g1.2 hmax w hp
      rw [ht] at hT
      refine WC.region ?_
      refine WL.step ?_
      refine WL.move rfl rfl ?_
      refine WL.step ?_
      refine WL.call1P (bs := pcell text a1 x1) F.fun86 (fun d h => by cases h; rfl) rfl (by repeat (first | exact Rem.here | apply Rem.there)) (fun w hS => hT w (hS.heap (by repeat (first | exact List.Mem.head _ | apply List.Mem.tail)))) (fun cs => ?_)
      refine WQ.then_panic ?_
      refine WQ.then_panic ?_
      refine WQ.panicked (fun w hS => ?_)
      exact ⟨rfl, _, (St.pick hS (c := pt bp cs 76) (by repeat (first | exact Rem.here | apply Rem.there))).one1⟩

theorem same_c (bp : Nat) (text : List UInt8) (hmax : text.length ≤ 140737488355328) (n : Nat) (hsub : PC bp text 105 [pp bp] .implies n) (hrec : PC bp text 105 [pp bp] .implies n) :
    PC bp text 85 [pp bp] .same (n + 1) := by
  intro a x r w hle hr hp
  simp only [Fm.parse] at hr
  refine enter Try.func85 rfl Try.ntmps85 rfl (St.init1 hp) ?_
  refine WC.seq ?_
  refine WC.region ?_
  refine WL.step ?_
  refine WL.alloc F.zero25 rfl (fun b2 => ?_)
  refine WL.nil ?_
  refine WQ.then_normal ?_
  refine WC.seq ?_
  rcases Fm.bindP_ok hr with ⟨a1, h1, rfl⟩ | ⟨t1, a1, x1, h1, hr1⟩
  · skip
    have hN := fun w hp => hsub _ _ _ w hle h1 hp
    refine WC.region ?_
    refine WL.step ?_
    refine WL.move rfl rfl ?_
    refine WL.step ?_
    refine WL.call1P (bs := pcell text a x) F.fun105 (fun d h => by cases h; rfl) rfl (by repeat (first | exact Rem.here | apply Rem.there)) (fun w hS => hN w (hS.heap (by repeat (first | exact List.Mem.head _ | apply List.Mem.tail)))) (fun cs => ?_)
    refine WQ.then_panic ?_
    refine WQ.panicked (fun w hS => ?_)
    exact ⟨rfl, _, (St.pick hS (c := pt bp cs 76) (by repeat (first | exact Rem.here | apply Rem.there))).one1⟩
  · skip
    have hN := fun w hp => hsub _ _ _ w hle h1 hp
    have g1 := Fm.parse_le _ _ _ _ _ _ _ hle h1
    refine WC.region ?_
    refine WL.step ?_
    refine WL.move rfl rfl ?_
    refine WL.step ?_
    refine WL.call1A (res := fun y : List Nat × Option Addr × Nat => tv t1 y.2.1 y.2.2) (c1 := fun y : List Nat × Option Addr × Nat => own y.1 t1 (tv t1 y.2.1 y.2.2)) (c2 := fun _ => pt bp (pcell text a1 x1) 76) (bs := pcell text a x) F.fun105 rfl rfl (by repeat (first | exact Rem.here | apply Rem.there)) (fun w hS => hN w (hS.heap (by repeat (first | exact List.Mem.head _ | apply List.Mem.tail)))) (fun y5 => ?_)
    refine WL.step ?_
    refine WL.alloc F.zero25 rfl (fun b3 => ?_)
    refine WL.step ?_
    refine WL.storeN F.agg25 rfl rfl rfl (by simp [Value.oneCell']) (by repeat (first | exact Upd.here | apply Upd.there)) (by repeat constructor) ?_
    refine WL.nil ?_
    refine WQ.then_normal ?_
    refine WC.seq ?_
    refine WC.seq ?_
    rcases Fm.bindT_ok hr1 with ⟨ht, hr2⟩ | ⟨a2, x2, ht, hr2⟩ | ⟨a2, ht, rfl⟩
    · skip
      have hT := fun w hp => takes_c bp text x1 [60, 61, 62] a1 g1.2 hmax w hp
      rw [ht] at hT
      injection hr2 with hr2
      subst hr2
      refine WC.region ?_
      refine WL.step ?_
      refine WL.move rfl rfl ?_
      refine WL.step ?_
      refine WL.call1S (bs := pcell text a1 x1) (bs' := pcell text a1 x1) F.fun86 rfl rfl (by repeat (first | exact Rem.here | apply Rem.there)) (fun w hS => hT w (hS.heap (by repeat (first | exact List.Mem.head _ | apply List.Mem.tail)))) ?_
      refine WL.step ?_
      refine WL.not rfl rfl ?_
      refine WL.nil ?_
      refine WQ.then_normal ?_
      refine WC.condT rfl ?_
      refine WC.seq ?_
      refine WC.region ?_
      refine WL.step ?_
      refine WL.loadW F.agg25 rfl rfl (by repeat (first | exact List.Mem.head _ | apply List.Mem.tail)) rfl ?_
      refine WL.step ?_
      refine WL.storeN F.agg25 rfl rfl rfl (by simp [Value.oneCell']) (by repeat (first | exact Upd.here | apply Upd.there)) (by repeat constructor) ?_
      refine WL.nil ?_
      refine WQ.then_normal ?_
      refine WC.ret ?_
      refine WQ.then_ret ?_
      refine WQ.ret (rs := [.cell 2 25]) rfl (.cellN F.agg25 rfl (by repeat (first | exact List.Mem.head _ | apply List.Mem.tail)) rfl .nil) (fun w hS => ?_)
      exact ⟨y5, rfl, (St.pick (St.pick hS (c := pt bp (pcell text a1 x1) 76) (by repeat (first | exact Rem.here | apply Rem.there))) (c := own y5.1 t1 (tv t1 y5.2.1 y5.2.2)) (by repeat (first | exact Rem.here | apply Rem.there))).two2⟩
    · skip
      have hT := fun w hp => takes_c bp text x1 [60, 61, 62] a1 g1.2 hmax w hp
      rw [ht] at hT
      have g2 := Fm.takes_le g1.2 ht
      refine WC.region ?_
      refine WL.step ?_
      refine WL.move rfl rfl ?_
      refine WL.step ?_
      refine WL.call1S (bs := pcell text a1 x1) (bs' := pcell text a2 x2) F.fun86 rfl rfl (by repeat (first | exact Rem.here | apply Rem.there)) (fun w hS => hT w (hS.heap (by repeat (first | exact List.Mem.head _ | apply List.Mem.tail)))) ?_
      refine WL.step ?_
      refine WL.not rfl rfl ?_
      refine WL.nil ?_
      refine WQ.then_normal ?_
      refine WC.condF rfl ?_
      refine WC.skip ?_
      refine WQ.then_normal ?_
      refine WC.seq ?_
      rcases Fm.bindP_ok hr2 with ⟨a3, h3, rfl⟩ | ⟨t2, a3, x3, h3, hr3⟩
      · skip
        have hM := fun w hp => hrec _ _ _ w g2.2 h3 hp
        refine WC.draws [([3, 4, 5], fun w => ∀ j v, [Value.int .u8 t1.op, .string (str t1.name), .slice y5.2.1 t1.kids.length y5.2.2][j]? = some v → w.cell? ⟨b3, 0 + j, none⟩ = some v)] (by kernel_rfl) (fun w hS => facts_cons (fun j v hv => by rw [Nat.zero_add]; exact hS.cell (by repeat (first | exact List.Mem.head _ | apply List.Mem.tail)) hv) (facts_nil)) ?_
        refine WD.take (i := 0) rfl rfl rfl rfl (by kernel_rfl) (by kernel_rfl) (by kernel_rfl) (fun _ _ _ h => h) (by kernel_rfl) (need_at 0 6 rfl (by kernel_rfl)) (Yl.loadN F.agg25 rfl rfl) ?_
        refine WD.take (i := 1) rfl rfl rfl rfl (by kernel_rfl) (by kernel_rfl) (by kernel_rfl) (fun _ _ _ h => h) (by kernel_rfl) need_none (Yl.move rfl) ?_
        refine WD.one (i := 2) (by kernel_rfl) rfl ?_
        refine WL.call1P (bs := pcell text a2 x2) F.fun105 (fun d h => by cases h; rfl) rfl (by repeat (first | exact Rem.here | apply Rem.there)) (fun w hS => hM w (hS.heap (by repeat (first | exact List.Mem.head _ | apply List.Mem.tail)))) (fun cs => ?_)
        refine WQ.then_panic ?_
        refine WQ.panicked (fun w hS => ?_)
        exact ⟨rfl, _, (St.pick hS (c := pt bp cs 76) (by repeat (first | exact Rem.here | apply Rem.there))).one1⟩
      · skip
        have hM := fun w hp => hrec _ _ _ w g2.2 h3 hp
        injection hr3 with hr3
        subst hr3
        refine WC.draws [([3, 4, 5], fun w => ∀ j v, [Value.int .u8 t1.op, .string (str t1.name), .slice y5.2.1 t1.kids.length y5.2.2][j]? = some v → w.cell? ⟨b3, 0 + j, none⟩ = some v)] (by kernel_rfl) (fun w hS => facts_cons (fun j v hv => by rw [Nat.zero_add]; exact hS.cell (by repeat (first | exact List.Mem.head _ | apply List.Mem.tail)) hv) (facts_nil)) ?_
        refine WD.take (i := 0) rfl rfl rfl rfl (by kernel_rfl) (by kernel_rfl) (by kernel_rfl) (fun _ _ _ h => h) (by kernel_rfl) (need_at 0 6 rfl (by kernel_rfl)) (Yl.loadN F.agg25 rfl rfl) ?_
        refine WD.take (i := 1) rfl rfl rfl rfl (by kernel_rfl) (by kernel_rfl) (by kernel_rfl) (fun _ _ _ h => h) (by kernel_rfl) need_none (Yl.move rfl) ?_
        refine WD.one (i := 2) (by kernel_rfl) rfl ?_
        refine WL.call1A (res := fun y : List Nat × Option Addr × Nat => tv t2 y.2.1 y.2.2) (c1 := fun y : List Nat × Option Addr × Nat => own y.1 t2 (tv t2 y.2.1 y.2.2)) (c2 := fun _ => pt bp (pcell text a3 x3) 76) (bs := pcell text a2 x2) F.fun105 rfl rfl (by repeat (first | exact Rem.here | apply Rem.there)) (fun w hS => hM w (hS.heap (by repeat (first | exact List.Mem.head _ | apply List.Mem.tail)))) (fun y12 => ?_)
        refine WD.on (closed_of (by kernel_rfl)) (fun w hS => Sx.keep (fun j v hv => by rw [Nat.zero_add]; exact hS.cell (by repeat (first | exact List.Mem.head _ | apply List.Mem.tail)) hv) (Sx.none)) ?_
        refine WD.one (i := 3) (by kernel_rfl) rfl ?_
        refine WL.buildSlice F.sl23 F.ez23 rfl rfl rfl rfl (by repeat (first | exact Built.nil | apply Built.one rfl rfl (by repeat constructor) | apply Built.agg rfl rfl (by repeat constructor))) rfl (fun b13 => ?_)
        refine WD.on (closed_of (by kernel_rfl)) (fun w hS => Sx.gone rfl (Sx.none)) ?_
        refine WD.one (i := 4) (by kernel_rfl) rfl ?_
        refine WL.callV F.fun88 rfl rfl (fun w _ => node_c _ _ _ _ w) ?_
        refine WD.on (closed_of (by kernel_rfl)) (fun w hS => Sx.gone rfl (Sx.none)) ?_
        refine WD.one (i := 5) (by kernel_rfl) rfl ?_
        refine WL.storeN F.agg25 rfl rfl rfl (by simp [Value.oneCell']) (by repeat (first | exact Upd.here | apply Upd.there)) (by repeat constructor) ?_
        refine WD.on (closed_of (by kernel_rfl)) (fun w hS => Sx.gone rfl (Sx.none)) ?_
        refine WD.done (by kernel_rfl) ?_
        refine WQ.then_normal ?_
        refine WC.ret ?_
        refine WQ.ret (rs := [.cell 2 25]) rfl (.cellN F.agg25 rfl (by repeat (first | exact List.Mem.head _ | apply List.Mem.tail)) rfl .nil) (fun w hS => ?_)
        obtain ⟨F, h⟩ := St.node2 9 (St.pick (St.pick (St.pick (St.pick hS (c := pt bp (pcell text a3 x3) 76) (by repeat (first | exact Rem.here | apply Rem.there))) (c := own y12.1 t2 (tv t2 y12.2.1 y12.2.2)) (by repeat (first | exact Rem.here | apply Rem.there))) (c := own y5.1 t1 (tv t1 y5.2.1 y5.2.2)) (by repeat (first | exact Rem.here | apply Rem.there))) (c := pt b13 [.int .u8 t1.op, .string (str t1.name), .slice y5.2.1 t1.kids.length y5.2.2, .int .u8 t2.op, .string (str t2.name), .slice y12.2.1 t2.kids.length y12.2.2] 25) (by repeat (first | exact Rem.here | apply Rem.there)))
        exact ⟨(F, _, _), rfl, h.two2⟩
    · skip
      have hT := fun w hp => takes_c bp text x1 [60, 61, 62] a1 g1.2 hmax w hp
      rw [ht] at hT
      refine WC.region ?_
      refine WL.step ?_
      refine WL.move rfl rfl ?_
      refine WL.step ?_
      refine WL.call1P (bs := pcell text a1 x1) F.fun86 (fun d h => by cases h; rfl) rfl (by repeat (first | exact Rem.here | apply Rem.there)) (fun w hS => hT w (hS.heap (by repeat (first | exact List.Mem.head _ | apply List.Mem.tail)))) (fun cs => ?_)
      refine WQ.then_panic ?_
      refine WQ.then_panic ?_
      refine WQ.panicked (fun w hS => ?_)
      exact ⟨rfl, _, (St.pick hS (c := pt bp cs 76) (by repeat (first | exact Rem.here | apply Rem.there))).one1⟩

theorem choice_c (bp : Nat) (text : List UInt8) (hmax : text.length ≤ 140737488355328) (n : Nat) (hsame : PC bp text 85 [pp bp] .same n) (hch : PC bp text 47 [pp bp] .choice n) :
    PC bp text 47 [pp bp] .choice (n + 1) := by
  intro a x r w hle hr hp
  simp only [Fm.parse] at hr
  refine enter Try.func47 rfl Try.ntmps47 rfl (St.init1 hp) ?_
  refine WC.seq ?_
  refine WC.region ?_
  refine WL.step ?_
  refine WL.alloc F.zero25 rfl (fun b2 => ?_)
  refine WL.nil ?_
  refine WQ.then_normal ?_
  refine WC.seq ?_
  rcases Fm.bindP_ok hr with ⟨a1, h1, rfl⟩ | ⟨t1, a1, x1, h1, hr1⟩
  · skip
    have hN := fun w hp => hsame _ _ _ w hle h1 hp
    refine WC.region ?_
    refine WL.step ?_
    refine WL.move rfl rfl ?_
    refine WL.step ?_
    refine WL.call1P (bs := pcell text a x) F.fun85 (fun d h => by cases h; rfl) rfl (by repeat (first | exact Rem.here | apply Rem.there)) (fun w hS => hN w (hS.heap (by repeat (first | exact List.Mem.head _ | apply List.Mem.tail)))) (fun cs => ?_)
    refine WQ.then_panic ?_
    refine WQ.panicked (fun w hS => ?_)
    exact ⟨rfl, _, (St.pick hS (c := pt bp cs 76) (by repeat (first | exact Rem.here | apply Rem.there))).one1⟩
  · skip
    have hN := fun w hp => hsame _ _ _ w hle h1 hp
    have g1 := Fm.parse_le _ _ _ _ _ _ _ hle h1
    refine WC.region ?_
    refine WL.step ?_
    refine WL.move rfl rfl ?_
    refine WL.step ?_
    refine WL.call1A (res := fun y : List Nat × Option Addr × Nat => tv t1 y.2.1 y.2.2) (c1 := fun y : List Nat × Option Addr × Nat => own y.1 t1 (tv t1 y.2.1 y.2.2)) (c2 := fun _ => pt bp (pcell text a1 x1) 76) (bs := pcell text a x) F.fun85 rfl rfl (by repeat (first | exact Rem.here | apply Rem.there)) (fun w hS => hN w (hS.heap (by repeat (first | exact List.Mem.head _ | apply List.Mem.tail)))) (fun y6 => ?_)
    refine WL.step ?_
    refine WL.alloc F.zero25 rfl (fun b3 => ?_)
    refine WL.step ?_
    refine WL.storeN F.agg25 rfl rfl rfl (by simp [Value.oneCell']) (by repeat (first | exact Upd.here | apply Upd.there)) (by repeat constructor) ?_
    refine WL.nil ?_
    refine WQ.then_normal ?_
    refine WC.seq ?_
    refine WC.seq ?_
    rcases Fm.bindT_ok hr1 with ⟨ht, hr2⟩ | ⟨a2, x2, ht, hr2⟩ | ⟨a2, ht, rfl⟩
    · skip
      have hT := fun w hp => takes_c bp text x1 [63] a1 g1.2 hmax w hp
      rw [ht] at hT
      injection hr2 with hr2
      subst hr2
      refine WC.region ?_
      refine WL.step ?_
      refine WL.move rfl rfl ?_
      refine WL.step ?_
      refine WL.call1S (bs := pcell text a1 x1) (bs' := pcell text a1 x1) F.fun86 rfl rfl (by repeat (first | exact Rem.here | apply Rem.there)) (fun w hS => hT w (hS.heap (by repeat (first | exact List.Mem.head _ | apply List.Mem.tail)))) ?_
      refine WL.step ?_
      refine WL.not rfl rfl ?_
      refine WL.nil ?_
      refine WQ.then_normal ?_
      refine WC.condT rfl ?_
      refine WC.seq ?_
      refine WC.region ?_
      refine WL.step ?_
      refine WL.loadW F.agg25 rfl rfl (by repeat (first | exact List.Mem.head _ | apply List.Mem.tail)) rfl ?_
      refine WL.step ?_
      refine WL.storeN F.agg25 rfl rfl rfl (by simp [Value.oneCell']) (by repeat (first | exact Upd.here | apply Upd.there)) (by repeat constructor) ?_
      refine WL.nil ?_
      refine WQ.then_normal ?_
      refine WC.ret ?_
      refine WQ.then_ret ?_
      refine WQ.ret (rs := [.cell 2 25]) rfl (.cellN F.agg25 rfl (by repeat (first | exact List.Mem.head _ | apply List.Mem.tail)) rfl .nil) (fun w hS => ?_)
      exact ⟨y6, rfl, (St.pick (St.pick hS (c := pt bp (pcell text a1 x1) 76) (by repeat (first | exact Rem.here | apply Rem.there))) (c := own y6.1 t1 (tv t1 y6.2.1 y6.2.2)) (by repeat (first | exact Rem.here | apply Rem.there))).two2⟩
    · skip
      have hT := fun w hp => takes_c bp text x1 [63] a1 g1.2 hmax w hp
      rw [ht] at hT
      have g2 := Fm.takes_le g1.2 ht
      refine WC.region ?_
      refine WL.step ?_
      refine WL.move rfl rfl ?_
      refine WL.step ?_
      refine WL.call1S (bs := pcell text a1 x1) (bs' := pcell text a2 x2) F.fun86 rfl rfl (by repeat (first | exact Rem.here | apply Rem.there)) (fun w hS => hT w (hS.heap (by repeat (first | exact List.Mem.head _ | apply List.Mem.tail)))) ?_
      refine WL.step ?_
      refine WL.not rfl rfl ?_
      refine WL.nil ?_
      refine WQ.then_normal ?_
      refine WC.condF rfl ?_
      refine WC.skip ?_
      refine WQ.then_normal ?_
      refine WC.seq ?_
      rcases Fm.bindP_ok hr2 with ⟨a3, h3, rfl⟩ | ⟨t2, a3, x3, h3, hr3⟩
      · skip
        have hM := fun w hp => hch _ _ _ w g2.2 h3 hp
        refine WC.region ?_
        refine WL.step ?_
        refine WL.move rfl rfl ?_
        refine WL.step ?_
        refine WL.call1P (bs := pcell text a2 x2) F.fun47 (fun d h => by cases h; rfl) rfl (by repeat (first | exact Rem.here | apply Rem.there)) (fun w hS => hM w (hS.heap (by repeat (first | exact List.Mem.head _ | apply List.Mem.tail)))) (fun cs => ?_)
        refine WQ.then_panic ?_
        refine WQ.panicked (fun w hS => ?_)
        exact ⟨rfl, _, (St.pick hS (c := pt bp cs 76) (by repeat (first | exact Rem.here | apply Rem.there))).one1⟩
      · skip
        have hM := fun w hp => hch _ _ _ w g2.2 h3 hp
        have g3 := Fm.parse_le _ _ _ _ _ _ _ g2.2 h3
        refine WC.region ?_
        refine WL.step ?_
        refine WL.move rfl rfl ?_
        refine WL.step ?_
        refine WL.call1A (res := fun y : List Nat × Option Addr × Nat => tv t2 y.2.1 y.2.2) (c1 := fun y : List Nat × Option Addr × Nat => own y.1 t2 (tv t2 y.2.1 y.2.2)) (c2 := fun _ => pt bp (pcell text a3 x3) 76) (bs := pcell text a2 x2) F.fun47 rfl rfl (by repeat (first | exact Rem.here | apply Rem.there)) (fun w hS => hM w (hS.heap (by repeat (first | exact List.Mem.head _ | apply List.Mem.tail)))) (fun y12 => ?_)
        refine WL.step ?_
        refine WL.alloc F.zero25 rfl (fun b4 => ?_)
        refine WL.step ?_
        refine WL.storeN F.agg25 rfl rfl rfl (by simp [Value.oneCell']) (by repeat (first | exact Upd.here | apply Upd.there)) (by repeat constructor) ?_
        refine WL.nil ?_
        refine WQ.then_normal ?_
        refine WC.seq ?_
        rcases Fm.bindT_ok hr3 with ⟨ht, hr4⟩ | ⟨a4, x4, ht, hr4⟩ | ⟨a4, ht, rfl⟩
        · skip
          clear hT
          have hT := fun w hp => must_c bp text x3 [58] a3 g3.2 hmax w hp
          rw [ht] at hT
          injection hr4 with hr4
          subst hr4
          refine WC.region ?_
          refine WL.step ?_
          refine WL.move rfl rfl ?_
          refine WL.step ?_
          refine WL.call1P (bs := pcell text a3 x3) F.fun87 (fun d h => by cases h; rfl) rfl (by repeat (first | exact Rem.here | apply Rem.there)) (fun w hS => hT w (hS.heap (by repeat (first | exact List.Mem.head _ | apply List.Mem.tail)))) (fun cs => ?_)
          refine WQ.then_panic ?_
          refine WQ.panicked (fun w hS => ?_)
          exact ⟨rfl, _, (St.pick hS (c := pt bp cs 76) (by repeat (first | exact Rem.here | apply Rem.there))).one1⟩
        · skip
          clear hT
          have hT := fun w hp => must_c bp text x3 [58] a3 g3.2 hmax w hp
          rw [ht] at hT
          have g4 := Fm.takes_le g3.2 ht
          refine WC.region ?_
          refine WL.step ?_
          refine WL.move rfl rfl ?_
          refine WL.step ?_
          refine WL.call1S (bs := pcell text a3 x3) (bs' := pcell text a4 x4) F.fun87 rfl rfl (by repeat (first | exact Rem.here | apply Rem.there)) (fun w hS => hT w (hS.heap (by repeat (first | exact List.Mem.head _ | apply List.Mem.tail)))) ?_
          refine WL.nil ?_
          refine WQ.then_normal ?_
          refine WC.seq ?_
          rcases Fm.bindP_ok hr4 with ⟨a5, h5, rfl⟩ | ⟨t3, a5, x5, h5, hr5⟩
          · skip
            have hM2 := fun w hp => hch _ _ _ w g4.2 h5 hp
            refine WC.draws [([4, 5, 6], fun w => ∀ j v, [Value.int .u8 t1.op, .string (str t1.name), .slice y6.2.1 t1.kids.length y6.2.2][j]? = some v → w.cell? ⟨b3, 0 + j, none⟩ = some v), ([4, 5, 6], fun w => ∀ j v, [Value.int .u8 t2.op, .string (str t2.name), .slice y12.2.1 t2.kids.length y12.2.2][j]? = some v → w.cell? ⟨b4, 0 + j, none⟩ = some v)] (by kernel_rfl) (fun w hS => facts_cons (fun j v hv => by rw [Nat.zero_add]; exact hS.cell (by repeat (first | exact List.Mem.head _ | apply List.Mem.tail)) hv) (facts_cons (fun j v hv => by rw [Nat.zero_add]; exact hS.cell (by repeat (first | exact List.Mem.head _ | apply List.Mem.tail)) hv) (facts_nil))) ?_
            refine WD.take (i := 0) rfl rfl rfl rfl (by kernel_rfl) (by kernel_rfl) (by kernel_rfl) (fun _ _ _ h => h) (by kernel_rfl) (need_at 0 7 rfl (by kernel_rfl)) (Yl.loadN F.agg25 rfl rfl) ?_
            refine WD.take (i := 1) rfl rfl rfl rfl (by kernel_rfl) (by kernel_rfl) (by kernel_rfl) (fun _ _ _ h => h) (by kernel_rfl) (need_at 1 7 rfl (by kernel_rfl)) (Yl.loadN F.agg25 rfl rfl) ?_
            refine WD.take (i := 2) rfl rfl rfl rfl (by kernel_rfl) (by kernel_rfl) (by kernel_rfl) (fun _ _ _ h => h) (by kernel_rfl) need_none (Yl.move rfl) ?_
            refine WD.one (i := 3) (by kernel_rfl) rfl ?_
            refine WL.call1P (bs := pcell text a4 x4) F.fun47 (fun d h => by cases h; rfl) rfl (by repeat (first | exact Rem.here | apply Rem.there)) (fun w hS => hM2 w (hS.heap (by repeat (first | exact List.Mem.head _ | apply List.Mem.tail)))) (fun cs => ?_)
            refine WQ.then_panic ?_
            refine WQ.panicked (fun w hS => ?_)
            exact ⟨rfl, _, (St.pick hS (c := pt bp cs 76) (by repeat (first | exact Rem.here | apply Rem.there))).one1⟩
          · skip
            have hM2 := fun w hp => hch _ _ _ w g4.2 h5 hp
            injection hr5 with hr5
            subst hr5
            refine WC.draws [([4, 5, 6], fun w => ∀ j v, [Value.int .u8 t1.op, .string (str t1.name), .slice y6.2.1 t1.kids.length y6.2.2][j]? = some v → w.cell? ⟨b3, 0 + j, none⟩ = some v), ([4, 5, 6], fun w => ∀ j v, [Value.int .u8 t2.op, .string (str t2.name), .slice y12.2.1 t2.kids.length y12.2.2][j]? = some v → w.cell? ⟨b4, 0 + j, none⟩ = some v)] (by kernel_rfl) (fun w hS => facts_cons (fun j v hv => by rw [Nat.zero_add]; exact hS.cell (by repeat (first | exact List.Mem.head _ | apply List.Mem.tail)) hv) (facts_cons (fun j v hv => by rw [Nat.zero_add]; exact hS.cell (by repeat (first | exact List.Mem.head _ | apply List.Mem.tail)) hv) (facts_nil))) ?_
            refine WD.take (i := 0) rfl rfl rfl rfl (by kernel_rfl) (by kernel_rfl) (by kernel_rfl) (fun _ _ _ h => h) (by kernel_rfl) (need_at 0 7 rfl (by kernel_rfl)) (Yl.loadN F.agg25 rfl rfl) ?_
            refine WD.take (i := 1) rfl rfl rfl rfl (by kernel_rfl) (by kernel_rfl) (by kernel_rfl) (fun _ _ _ h => h) (by kernel_rfl) (need_at 1 7 rfl (by kernel_rfl)) (Yl.loadN F.agg25 rfl rfl) ?_
            refine WD.take (i := 2) rfl rfl rfl rfl (by kernel_rfl) (by kernel_rfl) (by kernel_rfl) (fun _ _ _ h => h) (by kernel_rfl) need_none (Yl.move rfl) ?_
            refine WD.one (i := 3) (by kernel_rfl) rfl ?_
            refine WL.call1A (res := fun y : List Nat × Option Addr × Nat => tv t3 y.2.1 y.2.2) (c1 := fun y : List Nat × Option Addr × Nat => own y.1 t3 (tv t3 y.2.1 y.2.2)) (c2 := fun _ => pt bp (pcell text a5 x5) 76) (bs := pcell text a4 x4) F.fun47 rfl rfl (by repeat (first | exact Rem.here | apply Rem.there)) (fun w hS => hM2 w (hS.heap (by repeat (first | exact List.Mem.head _ | apply List.Mem.tail)))) (fun y18 => ?_)
            refine WD.on (closed_of (by kernel_rfl)) (fun w hS => Sx.keep (fun j v hv => by rw [Nat.zero_add]; exact hS.cell (by repeat (first | exact List.Mem.head _ | apply List.Mem.tail)) hv) (Sx.keep (fun j v hv => by rw [Nat.zero_add]; exact hS.cell (by repeat (first | exact List.Mem.head _ | apply List.Mem.tail)) hv) (Sx.none))) ?_
            refine WD.one (i := 4) (by kernel_rfl) rfl ?_
            refine WL.buildSlice F.sl23 F.ez23 rfl rfl rfl rfl (by repeat (first | exact Built.nil | apply Built.one rfl rfl (by repeat constructor) | apply Built.agg rfl rfl (by repeat constructor))) rfl (fun b19 => ?_)
            refine WD.on (closed_of (by kernel_rfl)) (fun w hS => Sx.gone rfl (Sx.gone rfl (Sx.none))) ?_
            refine WD.one (i := 5) (by kernel_rfl) rfl ?_
            refine WL.callV F.fun88 rfl rfl (fun w _ => node_c _ _ _ _ w) ?_
            refine WD.on (closed_of (by kernel_rfl)) (fun w hS => Sx.gone rfl (Sx.gone rfl (Sx.none))) ?_
            refine WD.one (i := 6) (by kernel_rfl) rfl ?_
            refine WL.storeN F.agg25 rfl rfl rfl (by simp [Value.oneCell']) (by repeat (first | exact Upd.here | apply Upd.there)) (by repeat constructor) ?_
            refine WD.on (closed_of (by kernel_rfl)) (fun w hS => Sx.gone rfl (Sx.gone rfl (Sx.none))) ?_
            refine WD.done (by kernel_rfl) ?_
            refine WQ.then_normal ?_
            refine WC.ret ?_
            refine WQ.ret (rs := [.cell 2 25]) rfl (.cellN F.agg25 rfl (by repeat (first | exact List.Mem.head _ | apply List.Mem.tail)) rfl .nil) (fun w hS => ?_)
            obtain ⟨F, h⟩ := St.node3 10 (St.pick (St.pick (St.pick (St.pick (St.pick hS (c := pt bp (pcell text a5 x5) 76) (by repeat (first | exact Rem.here | apply Rem.there))) (c := own y18.1 t3 (tv t3 y18.2.1 y18.2.2)) (by repeat (first | exact Rem.here | apply Rem.there))) (c := own y12.1 t2 (tv t2 y12.2.1 y12.2.2)) (by repeat (first | exact Rem.here | apply Rem.there))) (c := own y6.1 t1 (tv t1 y6.2.1 y6.2.2)) (by repeat (first | exact Rem.here | apply Rem.there))) (c := pt b19 [.int .u8 t1.op, .string (str t1.name), .slice y6.2.1 t1.kids.length y6.2.2, .int .u8 t2.op, .string (str t2.name), .slice y12.2.1 t2.kids.length y12.2.2, .int .u8 t3.op, .string (str t3.name), .slice y18.2.1 t3.kids.length y18.2.2] 25) (by repeat (first | exact Rem.here | apply Rem.there)))
            exact ⟨(F, _, _), rfl, h.two2⟩
        · skip
          clear hT
          have hT := fun w hp => must_c bp text x3 [58] a3 g3.2 hmax w hp
          rw [ht] at hT
          refine WC.region ?_
          refine WL.step ?_
          refine WL.move rfl rfl ?_
          refine WL.step ?_
          refine WL.call1P (bs := pcell text a3 x3) F.fun87 (fun d h => by cases h; rfl) rfl (by repeat (first | exact Rem.here | apply Rem.there)) (fun w hS => hT w (hS.heap (by repeat (first | exact List.Mem.head _ | apply List.Mem.tail)))) (fun cs => ?_)
          refine WQ.then_panic ?_
          refine WQ.panicked (fun w hS => ?_)
          exact ⟨rfl, _, (St.pick hS (c := pt bp cs 76) (by repeat (first | exact Rem.here | apply Rem.there))).one1⟩
    · skip
      have hT := fun w hp => takes_c bp text x1 [63] a1 g1.2 hmax w hp
      rw [ht] at hT
      refine WC.region ?_
      refine WL.step ?_
      refine WL.move rfl rfl ?_
      refine WL.step ?_
      refine WL.call1P (bs := pcell text a1 x1) F.fun86 (fun d h => by cases h; rfl) rfl (by repeat (first | exact Rem.here | apply Rem.there)) (fun w hS => hT w (hS.heap (by repeat (first | exact List.Mem.head _ | apply List.Mem.tail)))) (fun cs => ?_)
      refine WQ.then_panic ?_
      refine WQ.then_panic ?_
      refine WQ.panicked (fun w hS => ?_)
      exact ⟨rfl, _, (St.pick hS (c := pt bp cs 76) (by repeat (first | exact Rem.here | apply Rem.there))).one1⟩

theorem least_c (bp : Nat) (text : List UInt8) (hmax : text.length ≤ 140737488355328) (n : Nat) (hch : PC bp text 47 [pp bp] .choice n) :
    PC bp text 115 [pp bp] .least (n + 1) := by
  intro a x r w hle hr hp
  simp only [Fm.parse] at hr
  refine enter Try.func115 rfl Try.ntmps115 rfl (St.init1 hp) ?_
  refine WC.seq ?_
  refine WC.region ?_
  refine WL.step ?_
  refine WL.alloc F.zero25 rfl (fun b2 => ?_)
  refine WL.nil ?_
  refine WQ.then_normal ?_
  refine WC.seq ?_
  refine WC.region ?_
  refine WL.step ?_
  refine WL.move rfl rfl ?_
  refine WL.step ?_
  refine WL.nilCheck rfl rfl ?_
  refine WL.step ?_
  refine WL.fieldAddr0 F.fld76_2 rfl rfl ?_
  refine WL.step ?_
  refine WL.loadP F.one9 rfl rfl (by repeat (first | exact List.Mem.head _ | apply List.Mem.tail)) rfl ?_
  refine WL.step ?_
  refine WL.assign rfl rfl ?_
  refine WL.nil ?_
  refine WQ.then_normal ?_
  refine WC.seq ?_
  refine WC.block ?_
  refine WC.seq ?_
  rcases Fm.bindT_ok hr with ⟨ht, hr2⟩ | ⟨a2, x2, ht, hr2⟩ | ⟨a2, ht, rfl⟩
  · skip
    have hT := fun w hp => takes_c bp text x [40] a hle hmax w hp
    rw [ht] at hT
    refine WC.region ?_
    refine WL.step ?_
    refine WL.move rfl rfl ?_
    refine WL.step ?_
    refine WL.call1S (bs := pcell text a x) (bs' := pcell text a x) F.fun86 rfl rfl (by repeat (first | exact Rem.here | apply Rem.there)) (fun w hS => hT w (hS.heap (by repeat (first | exact List.Mem.head _ | apply List.Mem.tail)))) ?_
    refine WL.step ?_
    refine WL.assign rfl rfl ?_
    refine WL.nil ?_
    refine WQ.then_normal ?_
    refine WC.condF rfl ?_
    refine WC.seq ?_
    refine WC.region ?_
    refine WL.step ?_
    refine WL.move rfl rfl ?_
    refine WL.step ?_
    refine WL.eqS rfl rfl rfl ?_
    refine WL.step ?_
    refine WL.move rfl rfl ?_
    refine WA.splitB (i := 20) rfl (fun h20 => ?_) (fun h20 => ?_)
    · skip
      have hx : x = [] := by simpa using h20
      have hnl : Fm.noLeaf x = true := by rw [hx]; rfl
      refine WL.step (WL.guardF rfl rfl rfl rfl rfl rfl ?_)
      refine WL.step (WL.guardF rfl rfl rfl rfl rfl rfl ?_)
      refine WL.step (WL.guardF rfl rfl rfl rfl rfl rfl ?_)
      refine WL.step (WL.guardF rfl rfl rfl rfl rfl rfl ?_)
      refine WL.step ?_
      refine WL.pickT rfl rfl rfl ?_
      refine WL.step ?_
      refine WL.assign rfl rfl ?_
      refine WL.nil ?_
      refine WQ.then_normal ?_
      refine WC.condT rfl ?_
      refine WC.region ?_
      refine WL.step ?_
      refine WL.move rfl rfl ?_
      refine WL.step ?_
      refine WL.nilCheck rfl rfl ?_
      refine WL.step ?_
      refine WL.fieldAddr0 F.fld76_1 rfl rfl ?_
      refine WL.step ?_
      refine WL.loadP F.one3 rfl rfl (by repeat (first | exact List.Mem.head _ | apply List.Mem.tail)) rfl ?_
      refine WL.step ?_
      refine WL.build F.stT72 rfl (by repeat (first | exact Built.nil | apply Built.one rfl rfl (by repeat constructor) | apply Built.agg rfl rfl (by repeat constructor))) rfl ?_
      refine WL.step ?_
      refine WL.makeIface F.conc72 rfl rfl ?_
      refine WL.step ?_
      refine WL.panic rfl ?_
      refine WQ.block_panic ?_
      refine WQ.then_panic ?_
      rw [if_pos hnl] at hr2
      injection hr2 with hr2
      subst hr2
      refine WQ.panicked (fun w hS => ?_)
      exact ⟨rfl, _, (St.pick hS (c := pt bp (pcell text a x) 76) (by repeat (first | exact Rem.here | apply Rem.there))).one1⟩
    · skip
      have hx : x ≠ [] := by simpa using h20
      obtain ⟨c, hc⟩ : ∃ c, x[0]? = some c := by cases x with | nil => exact absurd rfl hx | cons c r => exact ⟨c, rfl⟩
      have hnl0 : Fm.noLeaf x = !Fm.inWordB c := by cases x with | nil => cases hc | cons d r => injection hc with hc; rw [← hc]; rfl
      refine WL.step (WL.guardT rfl rfl rfl ?_)
      refine WL.move rfl rfl ?_
      refine WL.step (WL.guardT rfl rfl rfl ?_)
      refine WL.indexS (i := 0) F.und9 rfl rfl rfl hc ?_
      refine WL.step (WL.guardT rfl rfl rfl ?_)
      refine WL.callV F.fun84 rfl rfl (fun w _ => inWord_c c w) ?_
      refine WL.step (WL.guardT rfl rfl rfl ?_)
      refine WL.not rfl rfl ?_
      refine WL.step ?_
      refine WL.pickF rfl rfl rfl ?_
      refine WL.step ?_
      refine WL.assign rfl rfl ?_
      refine WL.nil ?_
      refine WQ.then_normal ?_
      refine WC.cond rfl (fun h17 => ?_) (fun h17 => ?_)
      · skip
        have hnl : Fm.noLeaf x = true := by first | assumption | (rw [hnl0]; exact h17)
        refine WC.region ?_
        refine WL.step ?_
        refine WL.move rfl rfl ?_
        refine WL.step ?_
        refine WL.nilCheck rfl rfl ?_
        refine WL.step ?_
        refine WL.fieldAddr0 F.fld76_1 rfl rfl ?_
        refine WL.step ?_
        refine WL.loadP F.one3 rfl rfl (by repeat (first | exact List.Mem.head _ | apply List.Mem.tail)) rfl ?_
        refine WL.step ?_
        refine WL.build F.stT72 rfl (by repeat (first | exact Built.nil | apply Built.one rfl rfl (by repeat constructor) | apply Built.agg rfl rfl (by repeat constructor))) rfl ?_
        refine WL.step ?_
        refine WL.makeIface F.conc72 rfl rfl ?_
        refine WL.step ?_
        refine WL.panic rfl ?_
        refine WQ.block_panic ?_
        refine WQ.then_panic ?_
        rw [if_pos hnl] at hr2
        injection hr2 with hr2
        subst hr2
        refine WQ.panicked (fun w hS => ?_)
        exact ⟨rfl, _, (St.pick hS (c := pt bp (pcell text a x) 76) (by repeat (first | exact Rem.here | apply Rem.there))).one1⟩
      · skip
        have hnl : Fm.noLeaf x = false := by first | assumption | (rw [hnl0]; exact h17)
        simp only [hnl, Bool.false_eq_true, if_false] at hr2
        refine WC.skip ?_
        refine WQ.block_normal ?_
        refine WQ.then_normal ?_
        refine WC.seq ?_
        rcases hn : Fm.next text a x with ⟨a1, x1⟩ | a1
        · skip
          have hN := fun w hp => next_c bp text x a hle hmax w hp
          rw [hn] at hN hr2
          injection hr2 with hr2
          subst hr2
          refine WC.region ?_
          refine WL.step ?_
          refine WL.move rfl rfl ?_
          refine WL.step ?_
          refine WL.call1S (bs := pcell text a x) (bs' := pcell text a1 x1) F.fun46 rfl rfl (by repeat (first | exact Rem.here | apply Rem.there)) (fun w hS => hN w (hS.heap (by repeat (first | exact List.Mem.head _ | apply List.Mem.tail)))) ?_
          refine WL.nil ?_
          refine WQ.then_normal ?_
          refine WC.seq ?_
          refine WC.seq ?_
          refine WC.region ?_
          refine WL.step ?_
          refine WL.move rfl rfl ?_
          refine WL.nil ?_
          refine WQ.then_normal ?_
          refine WC.block ?_
          refine WC.seq ?_
          refine WC.region ?_
          refine WL.step ?_
          refine WL.eqS rfl rfl rfl ?_
          refine WL.step ?_
          refine WL.assign rfl rfl ?_
          refine WL.nil ?_
          refine WQ.then_normal ?_
          refine WC.cond rfl (fun h35 => ?_) (fun h35 => ?_)
          · skip
            have hx1 : x = [48] := by simpa using h35
            refine WC.seq ?_
            refine WC.region ?_
            refine WL.step ?_
            refine WL.callV F.fun88 rfl rfl (fun w _ => node_c _ _ _ _ w) ?_
            refine WL.step ?_
            refine WL.storeN F.agg25 rfl rfl rfl (by simp [Value.oneCell']) (by repeat (first | exact Upd.here | apply Upd.there)) (by repeat constructor) ?_
            refine WL.nil ?_
            refine WQ.then_normal ?_
            refine WC.ret ?_
            refine WQ.block_ret ?_
            refine WQ.then_ret ?_
            refine WQ.ret (rs := [.cell 2 25]) rfl (.cellN F.agg25 rfl (by repeat (first | exact List.Mem.head _ | apply List.Mem.tail)) rfl .nil) (fun w hS => ?_)
            have h0 := St.node0 1 [] (St.pick hS (c := pt bp (pcell text a1 x1) 76) (by repeat (first | exact Rem.here | apply Rem.there)))
            rw [show Fm.leaf x = .mk 1 [] [] by first | simp [Fm.leaf, hx1, hx2] | simp [Fm.leaf, hx1]]
            exact ⟨([], none, 0), rfl, h0.two2⟩
          · skip
            have hx1 : x ≠ [48] := by simpa using h35
            refine WC.seq ?_
            refine WC.region ?_
            refine WL.step ?_
            refine WL.eqS rfl rfl rfl ?_
            refine WL.step ?_
            refine WL.assign rfl rfl ?_
            refine WL.nil ?_
            refine WQ.then_normal ?_
            refine WC.cond rfl (fun h38 => ?_) (fun h38 => ?_)
            · skip
              have hx2 : x = [49] := by simpa using h38
              refine WC.seq ?_
              refine WC.region ?_
              refine WL.step ?_
              refine WL.callV F.fun88 rfl rfl (fun w _ => node_c _ _ _ _ w) ?_
              refine WL.step ?_
              refine WL.storeN F.agg25 rfl rfl rfl (by simp [Value.oneCell']) (by repeat (first | exact Upd.here | apply Upd.there)) (by repeat constructor) ?_
              refine WL.nil ?_
              refine WQ.then_normal ?_
              refine WC.ret ?_
              refine WQ.block_ret ?_
              refine WQ.then_ret ?_
              refine WQ.ret (rs := [.cell 2 25]) rfl (.cellN F.agg25 rfl (by repeat (first | exact List.Mem.head _ | apply List.Mem.tail)) rfl .nil) (fun w hS => ?_)
              have h0 := St.node0 2 [] (St.pick hS (c := pt bp (pcell text a1 x1) 76) (by repeat (first | exact Rem.here | apply Rem.there)))
              rw [show Fm.leaf x = .mk 2 [] [] by first | simp [Fm.leaf, hx1, hx2] | simp [Fm.leaf, hx1]]
              exact ⟨([], none, 0), rfl, h0.two2⟩
            · skip
              have hx2 : x ≠ [49] := by simpa using h38
              refine WC.skip ?_
              refine WQ.block_normal ?_
              refine WQ.then_normal ?_
              refine WC.seq ?_
              refine WC.region ?_
              refine WL.step ?_
              refine WL.move rfl rfl ?_
              refine WL.step ?_
              refine WL.build F.stT25 rfl (by repeat (first | exact Built.nil | apply Built.one rfl rfl (by repeat constructor) | apply Built.agg rfl rfl (by repeat constructor))) rfl ?_
              refine WL.step ?_
              refine WL.storeN F.agg25 rfl rfl rfl (by simp [Value.oneCell']) (by repeat (first | exact Upd.here | apply Upd.there)) (by repeat constructor) ?_
              refine WL.nil ?_
              refine WQ.then_normal ?_
              refine WC.ret ?_
              refine WQ.ret (rs := [.cell 2 25]) rfl (.cellN F.agg25 rfl (by repeat (first | exact List.Mem.head _ | apply List.Mem.tail)) rfl .nil) (fun w hS => ?_)
              have h0 := St.node0 3 x (St.pick hS (c := pt bp (pcell text a1 x1) 76) (by repeat (first | exact Rem.here | apply Rem.there)))
              rw [show Fm.leaf x = .mk 3 x [] by first | simp [Fm.leaf, hx1, hx2] | simp [Fm.leaf, hx1]]
              exact ⟨([], none, 0), rfl, h0.two2⟩
        · skip
          have hN := fun w hp => next_c bp text x a hle hmax w hp
          rw [hn] at hN hr2
          injection hr2 with hr2
          subst hr2
          refine WC.region ?_
          refine WL.step ?_
          refine WL.move rfl rfl ?_
          refine WL.step ?_
          refine WL.call1P (bs := pcell text a x) F.fun46 (fun d h => by cases h; rfl) rfl (by repeat (first | exact Rem.here | apply Rem.there)) (fun w hS => hN w (hS.heap (by repeat (first | exact List.Mem.head _ | apply List.Mem.tail)))) (fun cs => ?_)
          refine WQ.then_panic ?_
          refine WQ.panicked (fun w hS => ?_)
          exact ⟨rfl, _, (St.pick hS (c := pt bp cs 76) (by repeat (first | exact Rem.here | apply Rem.there))).one1⟩
  · skip
    have hT := fun w hp => takes_c bp text x [40] a hle hmax w hp
    rw [ht] at hT
    have g2 := Fm.takes_le hle ht
    refine WC.region ?_
    refine WL.step ?_
    refine WL.move rfl rfl ?_
    refine WL.step ?_
    refine WL.call1S (bs := pcell text a x) (bs' := pcell text a2 x2) F.fun86 rfl rfl (by repeat (first | exact Rem.here | apply Rem.there)) (fun w hS => hT w (hS.heap (by repeat (first | exact List.Mem.head _ | apply List.Mem.tail)))) ?_
    refine WL.step ?_
    refine WL.assign rfl rfl ?_
    refine WL.nil ?_
    refine WQ.then_normal ?_
    refine WC.condT rfl ?_
    refine WC.seq ?_
    rcases Fm.bindP_ok hr2 with ⟨a3, h3, rfl⟩ | ⟨t2, a3, x3, h3, hr3⟩
    · skip
      have hM := fun w hp => hch _ _ _ w g2.2 h3 hp
      refine WC.region ?_
      refine WL.step ?_
      refine WL.move rfl rfl ?_
      refine WL.step ?_
      refine WL.call1P (bs := pcell text a2 x2) F.fun47 (fun d h => by cases h; rfl) rfl (by repeat (first | exact Rem.here | apply Rem.there)) (fun w hS => hM w (hS.heap (by repeat (first | exact List.Mem.head _ | apply List.Mem.tail)))) (fun cs => ?_)
      refine WQ.then_panic ?_
      refine WQ.block_panic ?_
      refine WQ.then_panic ?_
      refine WQ.panicked (fun w hS => ?_)
      exact ⟨rfl, _, (St.pick hS (c := pt bp cs 76) (by repeat (first | exact Rem.here | apply Rem.there))).one1⟩
    · skip
      have hM := fun w hp => hch _ _ _ w g2.2 h3 hp
      have g3 := Fm.parse_le _ _ _ _ _ _ _ g2.2 h3
      refine WC.region ?_
      refine WL.step ?_
      refine WL.move rfl rfl ?_
      refine WL.step ?_
      refine WL.call1A (res := fun y : List Nat × Option Addr × Nat => tv t2 y.2.1 y.2.2) (c1 := fun y : List Nat × Option Addr × Nat => own y.1 t2 (tv t2 y.2.1 y.2.2)) (c2 := fun _ => pt bp (pcell text a3 x3) 76) (bs := pcell text a2 x2) F.fun47 rfl rfl (by repeat (first | exact Rem.here | apply Rem.there)) (fun w hS => hM w (hS.heap (by repeat (first | exact List.Mem.head _ | apply List.Mem.tail)))) (fun y13 => ?_)
      refine WL.step ?_
      refine WL.alloc F.zero25 rfl (fun b4 => ?_)
      refine WL.step ?_
      refine WL.storeN F.agg25 rfl rfl rfl (by simp [Value.oneCell']) (by repeat (first | exact Upd.here | apply Upd.there)) (by repeat constructor) ?_
      refine WL.nil ?_
      refine WQ.then_normal ?_
      refine WC.seq ?_
      rcases Fm.bindT_ok hr3 with ⟨ht, hr4⟩ | ⟨a4, x4, ht, hr4⟩ | ⟨a4, ht, rfl⟩
      · skip
        clear hT
        have hT := fun w hp => must_c bp text x3 [41] a3 g3.2 hmax w hp
        rw [ht] at hT
        injection hr4 with hr4
        subst hr4
        refine WC.region ?_
        refine WL.step ?_
        refine WL.move rfl rfl ?_
        refine WL.step ?_
        refine WL.call1P (bs := pcell text a3 x3) F.fun87 (fun d h => by cases h; rfl) rfl (by repeat (first | exact Rem.here | apply Rem.there)) (fun w hS => hT w (hS.heap (by repeat (first | exact List.Mem.head _ | apply List.Mem.tail)))) (fun cs => ?_)
        refine WQ.then_panic ?_
        refine WQ.block_panic ?_
        refine WQ.then_panic ?_
        refine WQ.panicked (fun w hS => ?_)
        exact ⟨rfl, _, (St.pick hS (c := pt bp cs 76) (by repeat (first | exact Rem.here | apply Rem.there))).one1⟩
      · skip
        clear hT
        have hT := fun w hp => must_c bp text x3 [41] a3 g3.2 hmax w hp
        rw [ht] at hT
        injection hr4 with hr4
        subst hr4
        refine WC.region ?_
        refine WL.step ?_
        refine WL.move rfl rfl ?_
        refine WL.step ?_
        refine WL.call1S (bs := pcell text a3 x3) (bs' := pcell text a4 x4) F.fun87 rfl rfl (by repeat (first | exact Rem.here | apply Rem.there)) (fun w hS => hT w (hS.heap (by repeat (first | exact List.Mem.head _ | apply List.Mem.tail)))) ?_
        refine WL.nil ?_
        refine WQ.then_normal ?_
        refine WC.seq ?_
        refine WC.region ?_
        refine WL.step ?_
        refine WL.loadW F.agg25 rfl rfl (by repeat (first | exact List.Mem.head _ | apply List.Mem.tail)) rfl ?_
        refine WL.step ?_
        refine WL.storeN F.agg25 rfl rfl rfl (by simp [Value.oneCell']) (by repeat (first | exact Upd.here | apply Upd.there)) (by repeat constructor) ?_
        refine WL.nil ?_
        refine WQ.then_normal ?_
        refine WC.ret ?_
        refine WQ.block_ret ?_
        refine WQ.then_ret ?_
        refine WQ.ret (rs := [.cell 2 25]) rfl (.cellN F.agg25 rfl (by repeat (first | exact List.Mem.head _ | apply List.Mem.tail)) rfl .nil) (fun w hS => ?_)
        exact ⟨y13, rfl, (St.pick (St.pick hS (c := pt bp (pcell text a4 x4) 76) (by repeat (first | exact Rem.here | apply Rem.there))) (c := own y13.1 t2 (tv t2 y13.2.1 y13.2.2)) (by repeat (first | exact Rem.here | apply Rem.there))).two2⟩
      · skip
        clear hT
        have hT := fun w hp => must_c bp text x3 [41] a3 g3.2 hmax w hp
        rw [ht] at hT
        refine WC.region ?_
        refine WL.step ?_
        refine WL.move rfl rfl ?_
        refine WL.step ?_
        refine WL.call1P (bs := pcell text a3 x3) F.fun87 (fun d h => by cases h; rfl) rfl (by repeat (first | exact Rem.here | apply Rem.there)) (fun w hS => hT w (hS.heap (by repeat (first | exact List.Mem.head _ | apply List.Mem.tail)))) (fun cs => ?_)
        refine WQ.then_panic ?_
        refine WQ.block_panic ?_
        refine WQ.then_panic ?_
        refine WQ.panicked (fun w hS => ?_)
        exact ⟨rfl, _, (St.pick hS (c := pt bp cs 76) (by repeat (first | exact Rem.here | apply Rem.there))).one1⟩
  · skip
    have hT := fun w hp => takes_c bp text x [40] a hle hmax w hp
    rw [ht] at hT
    refine WC.region ?_
    refine WL.step ?_
    refine WL.move rfl rfl ?_
    refine WL.step ?_
    refine WL.call1P (bs := pcell text a x) F.fun86 (fun d h => by cases h; rfl) rfl (by repeat (first | exact Rem.here | apply Rem.there)) (fun w hS => hT w (hS.heap (by repeat (first | exact List.Mem.head _ | apply List.Mem.tail)))) (fun cs => ?_)
    refine WQ.then_panic ?_
    refine WQ.block_panic ?_
    refine WQ.then_panic ?_
    refine WQ.panicked (fun w hS => ?_)
    exact ⟨rfl, _, (St.pick hS (c := pt bp cs 76) (by repeat (first | exact Rem.here | apply Rem.there))).one1⟩

end Go.Proofs.Ytbippghgkbapnaa
