import Derived.Test.YtbippghgkbapnaaPaPrints4
set_option linter.unusedSimpArgs false
set_option linter.unusedVariables false
namespace Go.Proofs.Ytbippghgkbapnaa
open Go Go.Eng Go.Proofs
theorem rleast_c (T : List Fm.Tk) (a : Option Addr) (c : Nat) (hT : T.length ≤ 1099511627776) (n : Nat) (hrec : RC T a c 113 [] .least n) (hch : RC T a c 49 [] .choice n) : RC T a c 113 [] .least (n + 1) := by
  intro r q w hr hq
  rw [Fm.rp] at hq
  refine enter Try.func113 rfl Try.ntmps113 rfl (St.init _) ?_
  refine WC.seq ?_
  refine WC.region ?_
  refine WL.step ?_
  refine WL.boxN rfl rfl (fun b1 => ?_)
  refine WL.step ?_
  refine WL.alloc F.zero25 rfl (fun b2 => ?_)
  refine WL.step ?_
  refine WL.alloc F.zero82 rfl (fun b3 => ?_)
  refine WL.nil ?_
  refine WQ.then_normal ?_
  refine WC.seq ?_
  refine WC.region ?_
  refine WL.step ?_
  refine WL.loadW F.agg82 rfl rfl (by repeat (first | exact List.Mem.head _ | apply List.Mem.tail)) rfl ?_
  refine WL.step ?_
  refine WL.callV F.fun107 rfl rfl (fun w hS => rword_c T a c r w (hr.next hS)) ?_
  refine WL.step ?_
  refine WL.assign rfl rfl ?_
  refine WL.nil ?_
  refine WQ.then_normal ?_
  refine WC.seq ?_
  refine WC.seq ?_
  refine WC.region ?_
  refine WL.step ?_
  refine WL.move rfl rfl ?_
  refine WL.step ?_
  refine WL.eqS rfl rfl rfl ?_
  refine WL.nil ?_
  refine WQ.then_normal ?_
  refine WC.cond rfl (fun h15 => ?_) (fun h15 => ?_)
  · skip
    have hx : Fm.rword T r = [] := by simpa using h15
    rw [if_pos hx] at hq
    injection hq with hq
    subst hq
    refine WC.seq ?_
    refine WC.region ?_
    refine WL.step ?_
    refine WL.build F.stT25 rfl (by repeat (first | exact Built.nil | apply Built.one rfl rfl (by repeat constructor) | apply Built.agg rfl rfl (by repeat constructor))) rfl ?_
    refine WL.step ?_
    refine WL.loadW F.agg82 rfl rfl (by repeat (first | exact List.Mem.head _ | apply List.Mem.tail)) rfl ?_
    refine WL.step ?_
    refine WL.callV F.fun92 rfl rfl (fun w _ => rbad_c T a c r w) ?_
    refine WL.step ?_
    refine WL.storeN F.agg25 rfl rfl rfl (by simp [Value.oneCell']) (by repeat (first | exact Upd.here | apply Upd.there)) (by repeat constructor) ?_
    refine WL.step ?_
    refine WL.storeN F.agg82 rfl rfl rfl (by simp [Value.oneCell']) (by repeat (first | exact Upd.here | apply Upd.there)) (by repeat constructor) ?_
    refine WL.nil ?_
    refine WQ.then_normal ?_
    refine WC.ret ?_
    refine WQ.then_ret ?_
    refine WQ.ret (rs := [.cell 2 25, .cell 3 82]) rfl (.cellN F.agg25 rfl (by repeat (first | exact List.Mem.head _ | apply List.Mem.tail)) rfl (.cellN F.agg82 rfl (by repeat (first | exact List.Mem.head _ | apply List.Mem.tail)) rfl .nil)) (fun w hS => ?_)
    exact ⟨([], none, 0), rfl, (St.node0 0 [] hS).one1⟩
  · skip
    have hx : Fm.rword T r ≠ [] := by simpa using h15
    rw [if_neg hx] at hq
    obtain ⟨_, tk, htk, _⟩ := rword_lt (T := T) (r := r) hx
    have hlt := (List.getElem?_eq_some_iff.1 htk).1
    refine WC.skip ?_
    refine WQ.then_normal ?_
    refine WC.seq ?_
    refine WC.region ?_
    refine WL.step ?_
    refine WL.loadW F.agg82 rfl rfl (by repeat (first | exact List.Mem.head _ | apply List.Mem.tail)) rfl ?_
    refine WL.step ?_
    refine WL.alloc F.zero82 rfl (fun b5 => ?_)
    refine WL.step ?_
    refine WL.storeN F.agg82 rfl rfl rfl (by simp [Value.oneCell']) (by repeat (first | exact Upd.here | apply Upd.there)) (by repeat constructor) ?_
    refine WL.nil ?_
    refine WQ.then_normal ?_
    refine WC.seq ?_
    refine WC.region ?_
    refine WL.step ?_
    refine WL.fieldAddr0 F.fld82_1 rfl rfl ?_
    refine WL.step ?_
    refine WL.loadP F.one3 rfl rfl (by repeat (first | exact List.Mem.head _ | apply List.Mem.tail)) rfl ?_
    refine WL.step ?_
    refine WL.add rfl rfl rfl ⟨by omega, by omega⟩ ?_
    refine WL.step ?_
    refine WL.fieldAddr0 F.fld82_1 rfl rfl ?_
    refine WL.step ?_
    refine WL.store1 F.one3 rfl rfl rfl (by repeat (first | exact Upd.here | apply Upd.there)) (by repeat constructor) ?_
    refine WL.nil ?_
    refine WQ.then_normal ?_
    refine WC.seq ?_
    refine WC.block ?_
    refine WC.seq ?_
    refine WC.region ?_
    refine WL.step ?_
    refine WL.move rfl rfl ?_
    refine WL.step ?_
    refine WL.eqS rfl rfl rfl ?_
    refine WL.step ?_
    refine WL.assign rfl rfl ?_
    refine WL.nil ?_
    refine WQ.then_normal ?_
    refine WC.cond rfl (fun h24 => ?_) (fun h24 => ?_)
    · skip
      have hx2 : Fm.rword T r = [33] := by simpa using h24
      rw [if_pos hx2] at hq
      obtain ⟨⟨t1, r1⟩, h1, hq⟩ := Option.bind_eq_some_iff.1 hq
      injection hq with hq
      subst hq
      refine WC.seq ?_
      refine WC.region ?_
      refine WL.step ?_
      refine WL.loadW F.agg82 rfl rfl (by repeat (first | exact List.Mem.head _ | apply List.Mem.tail)) rfl ?_
      refine WL.step ?_
      refine WL.callC (β := List Nat × Option Addr × Nat) (res := fun y => .tuple #[tv t1 y.2.1 y.2.2, rdv T a c r1]) (cs := fun y => [own y.1 t1 (tv t1 y.2.1 y.2.2)]) (Cs := []) (O' := []) F.fun113 (fun d h => by cases h; rfl) rfl (List.Perm.refl _) (by simp) (by simp) (fun w hS _ => hrec (r.1 + 1, r.2) (t1, r1) w (hr.next hS) h1) (fun y29 => ?_)
      refine WL.step ?_
      refine WL.move rfl rfl ?_
      refine WL.step ?_
      refine WL.extract rfl rfl rfl ?_
      refine WL.step ?_
      refine WL.extract rfl rfl rfl ?_
      refine WL.step ?_
      refine WL.alloc F.zero25 rfl (fun b6 => ?_)
      refine WL.step ?_
      refine WL.alloc F.zero82 rfl (fun b7 => ?_)
      refine WL.step ?_
      refine WL.storeN F.agg25 rfl rfl rfl (by simp [Value.oneCell']) (by repeat (first | exact Upd.here | apply Upd.there)) (by repeat constructor) ?_
      refine WL.step ?_
      refine WL.storeN F.agg82 rfl rfl rfl (by simp [Value.oneCell']) (by repeat (first | exact Upd.here | apply Upd.there)) (by repeat constructor) ?_
      refine WL.nil ?_
      refine WQ.then_normal ?_
      refine WC.seq ?_
      refine WC.drawsL (by kernel_rfl) (FactsOk.cons (ds := [1, 4, 5]) (LoadOk.whole (t := 6) rfl (by repeat (first | exact List.Mem.head _ | apply List.Mem.tail))) (FactsOk.cons (ds := [5]) (LoadOk.whole (t := 7) rfl (by repeat (first | exact List.Mem.head _ | apply List.Mem.tail))) (FactsOk.nil))) ?_
      refine WD.take (i := 0) rfl rfl rfl rfl (by kernel_rfl) (by kernel_rfl) (by kernel_rfl) (fun _ _ _ h => h) (by kernel_rfl) (need_at 0 6 rfl (by kernel_rfl)) (Yl.loadN F.agg25 rfl rfl) ?_
      refine WD.take (i := 3) rfl rfl rfl rfl (by kernel_rfl) (by kernel_rfl) (by kernel_rfl) (fun _ _ _ h => h) (by kernel_rfl) (need_at 1 6 rfl (by kernel_rfl)) (Yl.loadN F.agg82 rfl rfl) ?_
      refine WD.one (i := 1) (by kernel_rfl) rfl ?_
      refine WL.buildSlice F.sl23 F.ez23 rfl rfl rfl rfl (by repeat (first | exact Built.nil | apply Built.one rfl rfl (by repeat constructor) | apply Built.agg rfl rfl (by repeat constructor))) rfl (fun b33 => ?_)
      refine WD.on (closed_of (by kernel_rfl)) (fun w hS => Sx.gone rfl (Sx.keep ((fun j v hv => by rw [Nat.zero_add]; exact hS.cell (by repeat (first | exact List.Mem.head _ | apply List.Mem.tail)) hv)) (Sx.none))) ?_
      refine WD.take (i := 2) rfl rfl rfl rfl (by kernel_rfl) (by kernel_rfl) (by kernel_rfl) (fun _ _ _ h => h) (by kernel_rfl) need_none (Yl.build F.stT25 rfl (by repeat (first | exact Built.nil | apply Built.one rfl rfl (by repeat constructor) | apply Built.agg rfl rfl (by repeat constructor)))) ?_
      refine WD.one (i := 4) (by kernel_rfl) rfl ?_
      refine WL.storeN F.agg25 rfl rfl rfl (by simp [Value.oneCell']) (by repeat (first | exact Upd.here | apply Upd.there)) (by repeat constructor) ?_
      refine WD.on (closed_of (by kernel_rfl)) (fun w hS => Sx.gone rfl (Sx.keep ((fun j v hv => by rw [Nat.zero_add]; exact hS.cell (by repeat (first | exact List.Mem.head _ | apply List.Mem.tail)) hv)) (Sx.none))) ?_
      refine WD.one (i := 5) (by kernel_rfl) rfl ?_
      refine WL.storeN F.agg82 rfl rfl rfl (by simp [Value.oneCell']) (by repeat (first | exact Upd.here | apply Upd.there)) (by repeat constructor) ?_
      refine WD.on (closed_of (by kernel_rfl)) (fun w hS => Sx.gone rfl (Sx.gone rfl (Sx.none))) ?_
      refine WD.done (by kernel_rfl) ?_
      refine WQ.then_normal ?_
      refine WC.ret ?_
      refine WQ.block_ret ?_
      refine WQ.then_ret ?_
      refine WQ.ret (rs := [.cell 2 25, .cell 3 82]) rfl (.cellN F.agg25 rfl (by repeat (first | exact List.Mem.head _ | apply List.Mem.tail)) rfl (.cellN F.agg82 rfl (by repeat (first | exact List.Mem.head _ | apply List.Mem.tail)) rfl .nil)) (fun w hS => ?_)
      obtain ⟨F, h⟩ := St.node1 4 (St.pick (St.pick hS (c := own y29.1 t1 (tv t1 y29.2.1 y29.2.2)) (by repeat (first | exact Rem.here | apply Rem.there))) (c := pt b33 [.int .u8 t1.op, .string (str t1.name), .slice y29.2.1 t1.kids.length y29.2.2] 25) (by repeat (first | exact Rem.here | apply Rem.there)))
      exact ⟨(F, _, _), rfl, h.one1⟩
    · skip
      have hx2 : Fm.rword T r ≠ [33] := by simpa using h24
      rw [if_neg hx2] at hq
      refine WC.seq ?_
      refine WC.region ?_
      refine WL.step ?_
      refine WL.move rfl rfl ?_
      refine WL.step ?_
      refine WL.eqS rfl rfl rfl ?_
      refine WL.step ?_
      refine WL.assign rfl rfl ?_
      refine WL.nil ?_
      refine WQ.then_normal ?_
      refine WC.cond rfl (fun h36 => ?_) (fun h36 => ?_)
      · skip
        have hx3 : Fm.rword T r = [40] := by simpa using h36
        rw [if_pos hx3] at hq
        obtain ⟨⟨t1, r1⟩, h1, hq⟩ := Option.bind_eq_some_iff.1 hq
        dsimp only at hq
        refine WC.seq ?_
        refine WC.region ?_
        refine WL.step ?_
        refine WL.loadW F.agg82 rfl rfl (by repeat (first | exact List.Mem.head _ | apply List.Mem.tail)) rfl ?_
        refine WL.step ?_
        refine WL.callC (β := List Nat × Option Addr × Nat) (res := fun y => .tuple #[tv t1 y.2.1 y.2.2, rdv T a c r1]) (cs := fun y => [own y.1 t1 (tv t1 y.2.1 y.2.2)]) (Cs := []) (O' := []) F.fun49 (fun d h => by cases h; rfl) rfl (List.Perm.refl _) (by simp) (by simp) (fun w hS _ => hch (r.1 + 1, r.2) (t1, r1) w (hr.next hS) h1) (fun y41 => ?_)
        refine WL.step ?_
        refine WL.move rfl rfl ?_
        refine WL.step ?_
        refine WL.extract rfl rfl rfl ?_
        refine WL.step ?_
        refine WL.extract rfl rfl rfl ?_
        refine WL.step ?_
        refine WL.alloc F.zero25 rfl (fun b8 => ?_)
        refine WL.step ?_
        refine WL.alloc F.zero82 rfl (fun b9 => ?_)
        refine WL.step ?_
        refine WL.storeN F.agg25 rfl rfl rfl (by simp [Value.oneCell']) (by repeat (first | exact Upd.here | apply Upd.there)) (by repeat constructor) ?_
        refine WL.step ?_
        refine WL.storeN F.agg82 rfl rfl rfl (by simp [Value.oneCell']) (by repeat (first | exact Upd.here | apply Upd.there)) (by repeat constructor) ?_
        refine WL.nil ?_
        refine WQ.then_normal ?_
        refine WC.seq ?_
        rcases hs1 : Fm.rskip T r1 [41] with ⟨s1, _ | _⟩
        · skip
          rw [hs1] at hq
          dsimp only at hq
          rw [if_neg (by decide)] at hq
          injection hq with hq
          subst hq
          refine WC.region ?_
          refine WL.step ?_
          refine WL.loadW F.agg82 rfl rfl (by repeat (first | exact List.Mem.head _ | apply List.Mem.tail)) rfl ?_
          refine WL.step ?_
          refine WL.callV (v := .tuple #[rdv T a c s1, .bool false]) F.fun91 rfl rfl (fun w hS => by have h9 := rskip_c T a c r1 [41] (by first | exact Fm.rowSign_ne _ | simp) hT w (hr.next hS); rw [hs1] at h9; exact h9) ?_
          refine WL.step ?_
          refine WL.move rfl rfl ?_
          refine WL.step ?_
          refine WL.extract rfl rfl rfl ?_
          refine WL.step ?_
          refine WL.extract rfl rfl rfl ?_
          refine WL.step ?_
          refine WL.alloc F.zero82 rfl (fun b10 => ?_)
          refine WL.step ?_
          refine WL.storeN F.agg82 rfl rfl rfl (by simp [Value.oneCell']) (by repeat (first | exact Upd.here | apply Upd.there)) (by repeat constructor) ?_
          refine WL.step ?_
          refine WL.assign rfl rfl ?_
          refine WL.nil ?_
          refine WQ.then_normal ?_
          refine WC.seq ?_
          refine WC.seq ?_
          refine WC.region ?_
          refine WL.step ?_
          refine WL.move rfl rfl ?_
          refine WL.step ?_
          refine WL.not rfl rfl ?_
          refine WL.nil ?_
          refine WQ.then_normal ?_
          refine WC.condT rfl ?_
          refine WC.seq ?_
          refine WC.drawsL (by kernel_rfl) (FactsOk.cons (ds := [3, 4]) (LoadOk.whole (t := 8) rfl (by repeat (first | exact List.Mem.head _ | apply List.Mem.tail))) (FactsOk.cons (ds := [2, 3, 4]) (LoadOk.whole (t := 9) rfl (by repeat (first | exact List.Mem.head _ | apply List.Mem.tail))) (FactsOk.nil))) ?_
          refine WD.take (i := 0) rfl rfl rfl rfl (by kernel_rfl) (by kernel_rfl) (by kernel_rfl) (fun _ _ _ h => h) (by kernel_rfl) (need_at 0 5 rfl (by kernel_rfl)) (Yl.loadN F.agg25 rfl rfl) ?_
          refine WD.take (i := 1) rfl rfl rfl rfl (by kernel_rfl) (by kernel_rfl) (by kernel_rfl) (fun _ _ _ h => h) (by kernel_rfl) (need_at 1 5 rfl (by kernel_rfl)) (Yl.loadN F.agg82 rfl rfl) ?_
          refine WD.one (i := 2) (by kernel_rfl) rfl ?_
          refine WL.callV F.fun92 rfl rfl (fun w _ => rbad_c T a c r1 w) ?_
          refine WD.on (closed_of (by kernel_rfl)) (fun w hS => Sx.keep ((fun j v hv => by rw [Nat.zero_add]; exact hS.cell (by repeat (first | exact List.Mem.head _ | apply List.Mem.tail)) hv)) (Sx.gone rfl (Sx.none))) ?_
          refine WD.one (i := 3) (by kernel_rfl) rfl ?_
          refine WL.storeN F.agg25 rfl rfl rfl (by simp [Value.oneCell']) (by repeat (first | exact Upd.here | apply Upd.there)) (by repeat constructor) ?_
          refine WD.on (closed_of (by kernel_rfl)) (fun w hS => Sx.gone rfl (Sx.gone rfl (Sx.none))) ?_
          refine WD.one (i := 4) (by kernel_rfl) rfl ?_
          refine WL.storeN F.agg82 rfl rfl rfl (by simp [Value.oneCell']) (by repeat (first | exact Upd.here | apply Upd.there)) (by repeat constructor) ?_
          refine WD.on (closed_of (by kernel_rfl)) (fun w hS => Sx.gone rfl (Sx.gone rfl (Sx.none))) ?_
          refine WD.done (by kernel_rfl) ?_
          refine WQ.then_normal ?_
          refine WC.ret ?_
          refine WQ.then_ret ?_
          refine WQ.block_ret ?_
          refine WQ.then_ret ?_
          refine WQ.ret (rs := [.cell 2 25, .cell 3 82]) rfl (.cellN F.agg25 rfl (by repeat (first | exact List.Mem.head _ | apply List.Mem.tail)) rfl (.cellN F.agg82 rfl (by repeat (first | exact List.Mem.head _ | apply List.Mem.tail)) rfl .nil)) (fun w hS => ?_)
          exact ⟨y41, rfl, ((St.pick hS (c := own y41.1 t1 (tv t1 y41.2.1 y41.2.2)) (by repeat (first | exact Rem.here | apply Rem.there)))).one1⟩
        · skip
          rw [hs1] at hq
          dsimp only at hq
          rw [if_pos rfl] at hq
          injection hq with hq
          subst hq
          refine WC.region ?_
          refine WL.step ?_
          refine WL.loadW F.agg82 rfl rfl (by repeat (first | exact List.Mem.head _ | apply List.Mem.tail)) rfl ?_
          refine WL.step ?_
          refine WL.callV (v := .tuple #[rdv T a c s1, .bool true]) F.fun91 rfl rfl (fun w hS => by have h9 := rskip_c T a c r1 [41] (by first | exact Fm.rowSign_ne _ | simp) hT w (hr.next hS); rw [hs1] at h9; exact h9) ?_
          refine WL.step ?_
          refine WL.move rfl rfl ?_
          refine WL.step ?_
          refine WL.extract rfl rfl rfl ?_
          refine WL.step ?_
          refine WL.extract rfl rfl rfl ?_
          refine WL.step ?_
          refine WL.alloc F.zero82 rfl (fun b10 => ?_)
          refine WL.step ?_
          refine WL.storeN F.agg82 rfl rfl rfl (by simp [Value.oneCell']) (by repeat (first | exact Upd.here | apply Upd.there)) (by repeat constructor) ?_
          refine WL.step ?_
          refine WL.assign rfl rfl ?_
          refine WL.nil ?_
          refine WQ.then_normal ?_
          refine WC.seq ?_
          refine WC.seq ?_
          refine WC.region ?_
          refine WL.step ?_
          refine WL.move rfl rfl ?_
          refine WL.step ?_
          refine WL.not rfl rfl ?_
          refine WL.nil ?_
          refine WQ.then_normal ?_
          refine WC.condF rfl ?_
          refine WC.skip ?_
          refine WQ.then_normal ?_
          refine WC.seq ?_
          refine WC.drawsL (by kernel_rfl) (FactsOk.cons (ds := [2, 3]) (LoadOk.whole (t := 8) rfl (by repeat (first | exact List.Mem.head _ | apply List.Mem.tail))) (FactsOk.cons (ds := [3]) (LoadOk.whole (t := 10) rfl (by repeat (first | exact List.Mem.head _ | apply List.Mem.tail))) (FactsOk.nil))) ?_
          refine WD.take (i := 0) rfl rfl rfl rfl (by kernel_rfl) (by kernel_rfl) (by kernel_rfl) (fun _ _ _ h => h) (by kernel_rfl) (need_at 0 4 rfl (by kernel_rfl)) (Yl.loadN F.agg25 rfl rfl) ?_
          refine WD.take (i := 1) rfl rfl rfl rfl (by kernel_rfl) (by kernel_rfl) (by kernel_rfl) (fun _ _ _ h => h) (by kernel_rfl) (need_at 1 4 rfl (by kernel_rfl)) (Yl.loadN F.agg82 rfl rfl) ?_
          refine WD.one (i := 2) (by kernel_rfl) rfl ?_
          refine WL.storeN F.agg25 rfl rfl rfl (by simp [Value.oneCell']) (by repeat (first | exact Upd.here | apply Upd.there)) (by repeat constructor) ?_
          refine WD.on (closed_of (by kernel_rfl)) (fun w hS => Sx.gone rfl (Sx.keep ((fun j v hv => by rw [Nat.zero_add]; exact hS.cell (by repeat (first | exact List.Mem.head _ | apply List.Mem.tail)) hv)) (Sx.none))) ?_
          refine WD.one (i := 3) (by kernel_rfl) rfl ?_
          refine WL.storeN F.agg82 rfl rfl rfl (by simp [Value.oneCell']) (by repeat (first | exact Upd.here | apply Upd.there)) (by repeat constructor) ?_
          refine WD.on (closed_of (by kernel_rfl)) (fun w hS => Sx.gone rfl (Sx.gone rfl (Sx.none))) ?_
          refine WD.done (by kernel_rfl) ?_
          refine WQ.then_normal ?_
          refine WC.ret ?_
          refine WQ.block_ret ?_
          refine WQ.then_ret ?_
          refine WQ.ret (rs := [.cell 2 25, .cell 3 82]) rfl (.cellN F.agg25 rfl (by repeat (first | exact List.Mem.head _ | apply List.Mem.tail)) rfl (.cellN F.agg82 rfl (by repeat (first | exact List.Mem.head _ | apply List.Mem.tail)) rfl .nil)) (fun w hS => ?_)
          exact ⟨y41, rfl, ((St.pick hS (c := own y41.1 t1 (tv t1 y41.2.1 y41.2.2)) (by repeat (first | exact Rem.here | apply Rem.there)))).one1⟩
      · skip
        have hx3 : Fm.rword T r ≠ [40] := by simpa using h36
        rw [if_neg hx3] at hq
        refine WC.seq ?_
        refine WC.region ?_
        refine WL.step ?_
        refine WL.move rfl rfl ?_
        refine WL.step ?_
        refine WL.eqS rfl rfl rfl ?_
        refine WL.step ?_
        refine WL.assign rfl rfl ?_
        refine WL.nil ?_
        refine WQ.then_normal ?_
        refine WC.cond rfl (fun h56 => ?_) (fun h56 => ?_)
        · skip
          have hx4 : Fm.rword T r = [48] := by simpa using h56
          rw [if_pos hx4] at hq
          injection hq with hq
          subst hq
          refine WC.seq ?_
          refine WC.drawsL (by kernel_rfl) (FactsOk.cons (ds := [3]) (LoadOk.whole (t := 5) rfl (by repeat (first | exact List.Mem.head _ | apply List.Mem.tail))) (FactsOk.nil)) ?_
          refine WD.take (i := 0) rfl rfl rfl rfl (by kernel_rfl) (by kernel_rfl) (by kernel_rfl) (fun _ _ _ h => h) (by kernel_rfl) need_none (Yl.build F.stT25 rfl (by repeat (first | exact Built.nil | apply Built.one rfl rfl (by repeat constructor) | apply Built.agg rfl rfl (by repeat constructor)))) ?_
          refine WD.take (i := 1) rfl rfl rfl rfl (by kernel_rfl) (by kernel_rfl) (by kernel_rfl) (fun _ _ _ h => h) (by kernel_rfl) (need_at 0 4 rfl (by kernel_rfl)) (Yl.loadN F.agg82 rfl rfl) ?_
          refine WD.one (i := 2) (by kernel_rfl) rfl ?_
          refine WL.storeN F.agg25 rfl rfl rfl (by simp [Value.oneCell']) (by repeat (first | exact Upd.here | apply Upd.there)) (by repeat constructor) ?_
          refine WD.on (closed_of (by kernel_rfl)) (fun w hS => Sx.keep ((fun j v hv => by rw [Nat.zero_add]; exact hS.cell (by repeat (first | exact List.Mem.head _ | apply List.Mem.tail)) hv)) (Sx.none)) ?_
          refine WD.one (i := 3) (by kernel_rfl) rfl ?_
          refine WL.storeN F.agg82 rfl rfl rfl (by simp [Value.oneCell']) (by repeat (first | exact Upd.here | apply Upd.there)) (by repeat constructor) ?_
          refine WD.on (closed_of (by kernel_rfl)) (fun w hS => Sx.gone rfl (Sx.none)) ?_
          refine WD.done (by kernel_rfl) ?_
          refine WQ.then_normal ?_
          refine WC.ret ?_
          refine WQ.block_ret ?_
          refine WQ.then_ret ?_
          refine WQ.ret (rs := [.cell 2 25, .cell 3 82]) rfl (.cellN F.agg25 rfl (by repeat (first | exact List.Mem.head _ | apply List.Mem.tail)) rfl (.cellN F.agg82 rfl (by repeat (first | exact List.Mem.head _ | apply List.Mem.tail)) rfl .nil)) (fun w hS => ?_)
          exact ⟨([], none, 0), rfl, (St.node0 1 [] hS).one1⟩
        · skip
          have hx4 : Fm.rword T r ≠ [48] := by simpa using h56
          rw [if_neg hx4] at hq
          refine WC.seq ?_
          refine WC.region ?_
          refine WL.step ?_
          refine WL.move rfl rfl ?_
          refine WL.step ?_
          refine WL.eqS rfl rfl rfl ?_
          refine WL.step ?_
          refine WL.assign rfl rfl ?_
          refine WL.nil ?_
          refine WQ.then_normal ?_
          refine WC.cond rfl (fun h61 => ?_) (fun h61 => ?_)
          · skip
            have hx5 : Fm.rword T r = [49] := by simpa using h61
            rw [if_pos hx5] at hq
            injection hq with hq
            subst hq
            refine WC.seq ?_
            refine WC.drawsL (by kernel_rfl) (FactsOk.cons (ds := [3]) (LoadOk.whole (t := 5) rfl (by repeat (first | exact List.Mem.head _ | apply List.Mem.tail))) (FactsOk.nil)) ?_
            refine WD.take (i := 0) rfl rfl rfl rfl (by kernel_rfl) (by kernel_rfl) (by kernel_rfl) (fun _ _ _ h => h) (by kernel_rfl) need_none (Yl.build F.stT25 rfl (by repeat (first | exact Built.nil | apply Built.one rfl rfl (by repeat constructor) | apply Built.agg rfl rfl (by repeat constructor)))) ?_
            refine WD.take (i := 1) rfl rfl rfl rfl (by kernel_rfl) (by kernel_rfl) (by kernel_rfl) (fun _ _ _ h => h) (by kernel_rfl) (need_at 0 4 rfl (by kernel_rfl)) (Yl.loadN F.agg82 rfl rfl) ?_
            refine WD.one (i := 2) (by kernel_rfl) rfl ?_
            refine WL.storeN F.agg25 rfl rfl rfl (by simp [Value.oneCell']) (by repeat (first | exact Upd.here | apply Upd.there)) (by repeat constructor) ?_
            refine WD.on (closed_of (by kernel_rfl)) (fun w hS => Sx.keep ((fun j v hv => by rw [Nat.zero_add]; exact hS.cell (by repeat (first | exact List.Mem.head _ | apply List.Mem.tail)) hv)) (Sx.none)) ?_
            refine WD.one (i := 3) (by kernel_rfl) rfl ?_
            refine WL.storeN F.agg82 rfl rfl rfl (by simp [Value.oneCell']) (by repeat (first | exact Upd.here | apply Upd.there)) (by repeat constructor) ?_
            refine WD.on (closed_of (by kernel_rfl)) (fun w hS => Sx.gone rfl (Sx.none)) ?_
            refine WD.done (by kernel_rfl) ?_
            refine WQ.then_normal ?_
            refine WC.ret ?_
            refine WQ.block_ret ?_
            refine WQ.then_ret ?_
            refine WQ.ret (rs := [.cell 2 25, .cell 3 82]) rfl (.cellN F.agg25 rfl (by repeat (first | exact List.Mem.head _ | apply List.Mem.tail)) rfl (.cellN F.agg82 rfl (by repeat (first | exact List.Mem.head _ | apply List.Mem.tail)) rfl .nil)) (fun w hS => ?_)
            exact ⟨([], none, 0), rfl, (St.node0 2 [] hS).one1⟩
          · skip
            have hx5 : Fm.rword T r ≠ [49] := by simpa using h61
            rw [if_neg hx5] at hq
            refine WC.seq ?_
            refine WC.region ?_
            refine WL.step ?_
            refine WL.move rfl rfl ?_
            refine WL.step ?_
            refine WL.callV F.fun82 rfl rfl (fun w _ => refIsName_c _ w) ?_
            refine WL.step ?_
            refine WL.assign rfl rfl ?_
            refine WL.nil ?_
            refine WQ.then_normal ?_
            refine WC.cond rfl (fun h66 => ?_) (fun h66 => ?_)
            · skip
              rw [if_pos h66] at hq
              injection hq with hq
              subst hq
              refine WC.seq ?_
              refine WC.drawsL (by kernel_rfl) (FactsOk.cons (ds := [4]) (LoadOk.whole (t := 5) rfl (by repeat (first | exact List.Mem.head _ | apply List.Mem.tail))) (FactsOk.nil)) ?_
              refine WD.take (i := 0) rfl rfl rfl rfl (by kernel_rfl) (by kernel_rfl) (by kernel_rfl) (fun _ _ _ h => h) (by kernel_rfl) need_none (Yl.move rfl) ?_
              refine WD.take (i := 1) rfl rfl rfl rfl (by kernel_rfl) (by kernel_rfl) (by kernel_rfl) (fun _ _ _ h => h) (by kernel_rfl) need_none (Yl.build F.stT25 rfl (by repeat (first | exact Built.nil | apply Built.one rfl rfl (by repeat constructor) | apply Built.agg rfl rfl (by repeat constructor)))) ?_
              refine WD.take (i := 2) rfl rfl rfl rfl (by kernel_rfl) (by kernel_rfl) (by kernel_rfl) (fun _ _ _ h => h) (by kernel_rfl) (need_at 0 5 rfl (by kernel_rfl)) (Yl.loadN F.agg82 rfl rfl) ?_
              refine WD.one (i := 3) (by kernel_rfl) rfl ?_
              refine WL.storeN F.agg25 rfl rfl rfl (by simp [Value.oneCell']) (by repeat (first | exact Upd.here | apply Upd.there)) (by repeat constructor) ?_
              refine WD.on (closed_of (by kernel_rfl)) (fun w hS => Sx.keep ((fun j v hv => by rw [Nat.zero_add]; exact hS.cell (by repeat (first | exact List.Mem.head _ | apply List.Mem.tail)) hv)) (Sx.none)) ?_
              refine WD.one (i := 4) (by kernel_rfl) rfl ?_
              refine WL.storeN F.agg82 rfl rfl rfl (by simp [Value.oneCell']) (by repeat (first | exact Upd.here | apply Upd.there)) (by repeat constructor) ?_
              refine WD.on (closed_of (by kernel_rfl)) (fun w hS => Sx.gone rfl (Sx.none)) ?_
              refine WD.done (by kernel_rfl) ?_
              refine WQ.then_normal ?_
              refine WC.ret ?_
              refine WQ.block_ret ?_
              refine WQ.then_ret ?_
              refine WQ.ret (rs := [.cell 2 25, .cell 3 82]) rfl (.cellN F.agg25 rfl (by repeat (first | exact List.Mem.head _ | apply List.Mem.tail)) rfl (.cellN F.agg82 rfl (by repeat (first | exact List.Mem.head _ | apply List.Mem.tail)) rfl .nil)) (fun w hS => ?_)
              exact ⟨([], none, 0), rfl, (St.node0 3 (Fm.rword T r) hS).one1⟩
            · skip
              rw [if_neg (by rw [h66]; decide)] at hq
              injection hq with hq
              subst hq
              refine WC.skip ?_
              refine WQ.block_normal ?_
              refine WQ.then_normal ?_
              refine WC.seq ?_
              refine WC.region ?_
              refine WL.step ?_
              refine WL.build F.stT25 rfl (by repeat (first | exact Built.nil | apply Built.one rfl rfl (by repeat constructor) | apply Built.agg rfl rfl (by repeat constructor))) rfl ?_
              refine WL.step ?_
              refine WL.loadW F.agg82 rfl rfl (by repeat (first | exact List.Mem.head _ | apply List.Mem.tail)) rfl ?_
              refine WL.step ?_
              refine WL.callV F.fun92 rfl rfl (fun w _ => rbad_c T a c r w) ?_
              refine WL.step ?_
              refine WL.storeN F.agg25 rfl rfl rfl (by simp [Value.oneCell']) (by repeat (first | exact Upd.here | apply Upd.there)) (by repeat constructor) ?_
              refine WL.step ?_
              refine WL.storeN F.agg82 rfl rfl rfl (by simp [Value.oneCell']) (by repeat (first | exact Upd.here | apply Upd.there)) (by repeat constructor) ?_
              refine WL.nil ?_
              refine WQ.then_normal ?_
              refine WC.ret ?_
              refine WQ.ret (rs := [.cell 2 25, .cell 3 82]) rfl (.cellN F.agg25 rfl (by repeat (first | exact List.Mem.head _ | apply List.Mem.tail)) rfl (.cellN F.agg82 rfl (by repeat (first | exact List.Mem.head _ | apply List.Mem.tail)) rfl .nil)) (fun w hS => ?_)
              exact ⟨([], none, 0), rfl, (St.node0 0 [] hS).one1⟩

structure RG2 where
  m : Nat
  acc : List Tree
  F : List Nat
  vs : List Value
  len : Nat
  cells : List Value
  ad : Option Addr
  cap : Nat
  r : Fm.RS
  ev : List Value

theorem rrow_c (T : List Fm.Tk) (a : Option Addr) (c : Nat) (hT : T.length ≤ 1099511627776) (n k : Nat) (hk0 : 1 ≤ k) (hk4 : k ≤ 4) (hleast : RC T a c 113 [] .least n) (hrow : 2 ≤ k → ∀ m, m ≤ n → RC T a c 106 [.int .i64 ((k : Int) - 1)] (.row (4 - k + 1)) m) : RC T a c 106 [.int .i64 (k : Int)] (.row (4 - k)) (n + 1) := by
  intro r q w hr hq
  refine enter Try.func106 rfl Try.ntmps106 rfl (St.init _) ?_
  refine WC.seq ?_
  refine WC.region ?_
  refine WL.step ?_
  refine WL.boxN rfl rfl (fun b2 => ?_)
  refine WL.step ?_
  refine WL.alloc F.zero25 rfl (fun b4 => ?_)
  refine WL.step ?_
  refine WL.alloc F.zero82 rfl (fun b5 => ?_)
  refine WL.nil ?_
  refine WQ.then_normal ?_
  refine WC.seq ?_
  refine WC.seq ?_
  refine WC.region ?_
  refine WL.step ?_
  refine WL.move rfl rfl ?_
  refine WL.step ?_
  refine WL.eqI rfl rfl rfl ?_
  refine WL.nil ?_
  refine WQ.then_normal ?_
  refine WC.cond rfl (fun h13 => ?_) (fun h13 => ?_)
  · skip
    have hk1 : k = 1 := by simp at h13; omega
    subst hk1
    rw [Fm.rp, if_pos (by omega)] at hq
    refine WC.seq ?_
    refine WC.region ?_
    refine WL.step ?_
    refine WL.loadW F.agg82 rfl rfl (by repeat (first | exact List.Mem.head _ | apply List.Mem.tail)) rfl ?_
    refine WL.step ?_
    refine WL.callC (β := List Nat × Option Addr × Nat) (res := fun y => .tuple #[tv q.1 y.2.1 y.2.2, rdv T a c q.2]) (cs := fun y => [own y.1 q.1 (tv q.1 y.2.1 y.2.2)]) (Cs := []) (O' := []) F.fun113 (fun d h => by cases h; rfl) rfl (List.Perm.refl _) (by simp) (by simp) (fun w hS _ => hleast r q w (hr.next hS) hq) (fun y15 => ?_)
    refine WL.step ?_
    refine WL.extract rfl rfl rfl ?_
    refine WL.step ?_
    refine WL.extract rfl rfl rfl ?_
    refine WL.step ?_
    refine WL.storeN F.agg25 rfl rfl rfl (by simp [Value.oneCell']) (by repeat (first | exact Upd.here | apply Upd.there)) (by repeat constructor) ?_
    refine WL.step ?_
    refine WL.storeN F.agg82 rfl rfl rfl (by simp [Value.oneCell']) (by repeat (first | exact Upd.here | apply Upd.there)) (by repeat constructor) ?_
    refine WL.nil ?_
    refine WQ.then_normal ?_
    refine WC.ret ?_
    refine WQ.then_ret ?_
    refine WQ.ret (rs := [.cell 4 25, .cell 5 82]) rfl (.cellN F.agg25 rfl (by repeat (first | exact List.Mem.head _ | apply List.Mem.tail)) rfl (.cellN F.agg82 rfl (by repeat (first | exact List.Mem.head _ | apply List.Mem.tail)) rfl .nil)) (fun w hS => ?_)
    exact ⟨y15, rfl, ((St.pick hS (c := own y15.1 q.1 (tv q.1 y15.2.1 y15.2.2)) (by repeat (first | exact Rem.here | apply Rem.there)))).one1⟩
  · skip
    have hk1 : 2 ≤ k := by simp at h13; omega
    rw [Fm.rp, if_neg (by omega)] at hq
    obtain ⟨⟨t1, r1⟩, h1, hq⟩ := Option.bind_eq_some_iff.1 hq
    dsimp only at hq
    refine WC.skip ?_
    refine WQ.then_normal ?_
    refine WC.seq ?_
    refine WC.region ?_
    refine WL.step ?_
    refine WL.buildSlice F.sl89 F.ez89 rfl rfl rfl rfl (by repeat (first | exact Built.nil | apply Built.one rfl rfl (by repeat constructor) | apply Built.agg rfl rfl (by repeat constructor))) rfl (fun b18 => ?_)
    refine WL.step ?_
    refine WL.assign rfl rfl ?_
    refine WL.nil ?_
    refine WQ.then_normal ?_
    refine WC.seq ?_
    refine WC.region ?_
    refine WL.step ?_
    refine WL.buildSlice F.sl61 F.ez61 rfl rfl rfl rfl (by repeat (first | exact Built.nil | apply Built.one rfl rfl (by repeat constructor) | apply Built.agg rfl rfl (by repeat constructor))) rfl (fun b19 => ?_)
    refine WL.step ?_
    refine WL.assign rfl rfl ?_
    refine WL.nil ?_
    refine WQ.then_normal ?_
    refine WC.seq ?_
    refine WC.region ?_
    refine WL.step ?_
    refine WL.loadW F.agg82 rfl rfl (by repeat (first | exact List.Mem.head _ | apply List.Mem.tail)) rfl ?_
    refine WL.step ?_
    refine WL.move rfl rfl ?_
    refine WL.step ?_
    refine WL.sub rfl rfl rfl ⟨by omega, by omega⟩ ?_
    refine WL.step ?_
    refine WL.callC (β := List Nat × Option Addr × Nat) (res := fun y => .tuple #[tv t1 y.2.1 y.2.2, rdv T a c r1]) (cs := fun y => [own y.1 t1 (tv t1 y.2.1 y.2.2)]) (Cs := []) (O' := []) F.fun106 (fun d h => by cases h; rfl) rfl (List.Perm.refl _) (by simp) (by simp) (fun w hS _ => hrow hk1 n (Nat.le_refl _) r (t1, r1) w (hr.next hS) h1) (fun y24 => ?_)
    refine WL.step ?_
    refine WL.move rfl rfl ?_
    refine WL.step ?_
    refine WL.extract rfl rfl rfl ?_
    refine WL.step ?_
    refine WL.extract rfl rfl rfl ?_
    refine WL.step ?_
    refine WL.alloc F.zero25 rfl (fun b8 => ?_)
    refine WL.step ?_
    refine WL.storeN F.agg25 rfl rfl rfl (by simp [Value.oneCell']) (by repeat (first | exact Upd.here | apply Upd.there)) (by repeat constructor) ?_
    refine WL.step ?_
    refine WL.storeN F.agg82 rfl rfl rfl (by simp [Value.oneCell']) (by repeat (first | exact Upd.here | apply Upd.there)) (by repeat constructor) ?_
    refine WL.nil ?_
    refine WQ.then_normal ?_
    refine WC.seq ?_
    refine WC.region ?_
    refine WL.step ?_
    refine WL.loadW F.agg25 rfl rfl (by repeat (first | exact List.Mem.head _ | apply List.Mem.tail)) rfl ?_
    refine WL.step ?_
    refine WL.buildSlice F.sl23 F.ez23 rfl rfl rfl rfl (by repeat (first | exact Built.nil | apply Built.one rfl rfl (by repeat constructor) | apply Built.agg rfl rfl (by repeat constructor))) rfl (fun b28 => ?_)
    refine WL.step ?_
    refine WL.assign rfl rfl ?_
    refine WL.nil ?_
    refine WQ.then_normal ?_
    refine WC.seq ?_
    refine WC.block ?_
    refine WC.chunks (C' := [pt b2 [Value.slice a T.length c, .int .i64 (r1.1 : Int), .bool r1.2] 82, rowc (.slice (some ⟨b28, 0, none⟩) 1 1) 1 25 3 (flat [tv t1 y24.2.1 y24.2.2]), ownL ([] ++ y24.1) ([] ++ [t1]) ([] ++ [tv t1 y24.2.1 y24.2.2]), pt b18 [Value.int .u8 0, .int .u8 0, .int .u8 5, .int .u8 7, .int .u8 6] 5, pt b19 [Value.string (str []), .string (str []), .string (str [38]), .string (str [94]), .string (str [124])] 9, pt b8 [Value.int .u8 t1.op, .string (str t1.name), .slice y24.2.1 t1.kids.length y24.2.2] 25, pt b4 [Value.int .u8 0, .string (str []), .slice none 0 0] 25, pt b5 [Value.slice none 0 0, .int .i64 0, .bool false] 82]) (fun w hS => ?_) ?_
    · have h1 := St.rowOf (n := 1) (sz := 3) (St.pick hS (c := pt b28 [Value.int .u8 t1.op, .string (str t1.name), .slice y24.2.1 t1.kids.length y24.2.2] 25) (by repeat (first | exact Rem.here | apply Rem.there))) rfl (by decide)
      have h2 := St.ownSnoc (St.ownNil (St.pick h1 (c := own y24.1 t1 (tv t1 y24.2.1 y24.2.2)) (by repeat (first | exact Rem.here | apply Rem.there))))
      exact ((St.pick (St.pick (St.pick (St.pick (St.pick (St.pick (St.pick (St.pick h2 (c := pt b5 [Value.slice none 0 0, .int .i64 0, .bool false] 82) (by repeat (first | exact Rem.here | apply Rem.there))) (c := pt b4 [Value.int .u8 0, .string (str []), .slice none 0 0] 25) (by repeat (first | exact Rem.here | apply Rem.there))) (c := pt b8 [Value.int .u8 t1.op, .string (str t1.name), .slice y24.2.1 t1.kids.length y24.2.2] 25) (by repeat (first | exact Rem.here | apply Rem.there))) (c := pt b19 [Value.string (str []), .string (str []), .string (str [38]), .string (str [94]), .string (str [124])] 9) (by repeat (first | exact Rem.here | apply Rem.there))) (c := pt b18 [Value.int .u8 0, .int .u8 0, .int .u8 5, .int .u8 7, .int .u8 6] 5) (by repeat (first | exact Rem.here | apply Rem.there))) (c := ownL ([] ++ y24.1) ([] ++ [t1]) ([] ++ [tv t1 y24.2.1 y24.2.2])) (by repeat (first | exact Rem.here | apply Rem.there))) (c := rowc (.slice (some ⟨b28, 0, none⟩) 1 1) 1 25 3 (flat [tv t1 y24.2.1 y24.2.2])) (by repeat (first | exact Rem.here | apply Rem.there))) (c := pt b2 [Value.slice a T.length c, .int .i64 (r1.1 : Int), .bool r1.2] 82) (by repeat (first | exact Rem.here | apply Rem.there)))).sublist (List.Sublist.cons_cons _ (List.Sublist.cons_cons _ (List.Sublist.cons_cons _ (List.Sublist.cons_cons _ (List.Sublist.cons_cons _ (List.Sublist.cons_cons _ (List.Sublist.cons_cons _ (List.Sublist.cons_cons _ (List.nil_sublist _)))))))))
    refine WC.loop (α := RG2) (fun g => g.m ≤ n ∧ g.acc.length + (T.length - g.r.1) ≤ 1 + T.length ∧ g.len = g.acc.length ∧ g.cells = flat g.vs ∧ g.ev.length = 3 ∧ Fm.rp T g.m (.rest (4 - k) g.acc) g.r = some q) (fun g => [(1, .int .i64 (k : Int)), (2, pp b2), (4, pp b4), (5, pp b5), (6, .slice (some ⟨b18, 0, none⟩) 5 5), (7, .slice (some ⟨b19, 0, none⟩) 5 5), (8, pp b8), (9, .slice g.ad g.len g.cap)]) (fun g => [pt b2 [Value.slice a T.length c, .int .i64 (g.r.1 : Int), .bool g.r.2] 82, rowc (.slice g.ad g.len g.cap) g.len 25 3 g.cells, ownL g.F g.acc g.vs, pt b18 [Value.int .u8 0, .int .u8 0, .int .u8 5, .int .u8 7, .int .u8 6] 5, pt b19 [Value.string (str []), .string (str []), .string (str [38]), .string (str [94]), .string (str [124])] 9, pt b8 g.ev 25, pt b4 [Value.int .u8 0, .string (str []), .slice none 0 0] 25, pt b5 [Value.slice none 0 0, .int .i64 0, .bool false] 82]) (fun g => g.m) (⟨n, [t1], y24.1, [tv t1 y24.2.1 y24.2.2], 1, flat [tv t1 y24.2.1 y24.2.2], some ⟨b28, 0, none⟩, 1, r1, [Value.int .u8 t1.op, .string (str t1.name), .slice y24.2.1 t1.kids.length y24.2.2]⟩) ?_ ?_ ?_ ?_
    · exact ⟨Nat.le_refl _, by dsimp only [List.length_cons, List.length_nil]; omega, rfl, rfl, rfl, hq⟩
    · exact ⟨rfl, rfl, rfl, rfl, rfl, rfl, rfl, rfl, trivial⟩
    · rfl
    rintro ⟨m, acc, Fb, vs, len, cells, ad, cap, rk, ev⟩ ⟨hm, hac, hlen, hcs, hev, hrk⟩
    dsimp only at hm hac hlen hcs hev hrk
    show WC _ _ _ _ _ _ _ [(1, .int .i64 (k : Int)), (2, pp b2), (4, pp b4), (5, pp b5), (6, .slice (some ⟨b18, 0, none⟩) 5 5), (7, .slice (some ⟨b19, 0, none⟩) 5 5), (8, pp b8), (9, .slice ad len cap)] [pt b2 [Value.slice a T.length c, .int .i64 (rk.1 : Int), .bool rk.2] 82, rowc (.slice ad len cap) len 25 3 cells, ownL Fb acc vs, pt b18 [Value.int .u8 0, .int .u8 0, .int .u8 5, .int .u8 7, .int .u8 6] 5, pt b19 [Value.string (str []), .string (str []), .string (str [38]), .string (str [94]), .string (str [124])] 9, pt b8 ev 25, pt b4 [Value.int .u8 0, .string (str []), .slice none 0 0] 25, pt b5 [Value.slice none 0 0, .int .i64 0, .bool false] 82]
    obtain ⟨m, rfl⟩ : ∃ m2, m = m2 + 1 := by cases m with | zero => simp [Fm.rp] at hrk | succ m => exact ⟨m, rfl⟩
    obtain ⟨e0, e1, e2, rfl⟩ : ∃ e0 e1 e2, ev = [e0, e1, e2] := by (match ev, hev with | [e0, e1, e2], _ => exact ⟨e0, e1, e2, rfl⟩)
    rw [Fm.rp] at hrk
    have hsg : [Value.string (str []), .string (str []), .string (str [38]), .string (str [94]), .string (str [124])][k]? = some (.string (str (Fm.rowSign (4 - k)))) := by rcases (by omega : k = 2 ∨ k = 3 ∨ k = 4) with rfl | rfl | rfl <;> rfl
    have hop : [Value.int .u8 0, .int .u8 0, .int .u8 5, .int .u8 7, .int .u8 6][k]? = some (.int .u8 (Fm.rowOp (4 - k))) := by rcases (by omega : k = 2 ∨ k = 3 ∨ k = 4) with rfl | rfl | rfl <;> rfl
    refine WC.block ?_
    refine WC.seq ?_
    rcases hs1 : Fm.rskip T rk (Fm.rowSign (4 - k)) with ⟨s1, _ | _⟩
    · skip
      rw [hs1] at hrk
      dsimp only at hrk
      rw [if_neg (by decide)] at hrk
      injection hrk with hrk
      subst hrk
      refine WC.drawsL (by kernel_rfl) (FactsOk.cons (ds := [5, 10]) (LoadOk.whole (t := 2) rfl (by repeat (first | exact List.Mem.head _ | apply List.Mem.tail))) (FactsOk.cons (ds := [5, 10]) (LoadOk.by (Y := fun w => w.cell? ⟨b19, 0 + k * 1, none⟩ = some (.string (str (Fm.rowSign (4 - k))))) (fun w hS => by rw [Nat.zero_add, Nat.mul_one]; exact hS.cell (by repeat (first | exact List.Mem.head _ | apply List.Mem.tail)) hsg)) (FactsOk.nil))) ?_
      refine WD.take (i := 0) rfl rfl rfl rfl (by kernel_rfl) (by kernel_rfl) (by kernel_rfl) (fun _ _ _ h => h) (by kernel_rfl) (need_at 0 12 rfl (by kernel_rfl)) (Yl.loadN F.agg82 rfl rfl) ?_
      refine WD.take (i := 1) rfl rfl rfl rfl (by kernel_rfl) (by kernel_rfl) (by kernel_rfl) (fun _ _ _ h => h) (by kernel_rfl) need_none (Yl.move rfl) ?_
      refine WD.take (i := 2) rfl rfl rfl rfl (by kernel_rfl) (by kernel_rfl) (by kernel_rfl) (fun _ _ _ h => h) (by kernel_rfl) need_none (Yl.move rfl) ?_
      refine WD.take (i := 3) rfl rfl rfl rfl (by kernel_rfl) (by kernel_rfl) (by kernel_rfl) (fun _ _ _ h => h) (by kernel_rfl) need_none (Yl.indexAddr F.sl61 rfl rfl (by omega)) ?_
      refine WD.take (i := 4) rfl rfl rfl rfl (by kernel_rfl) (by kernel_rfl) (by kernel_rfl) (fun _ _ _ h => h) (by kernel_rfl) (need_at 1 12 rfl (by kernel_rfl)) (Yl.load1 F.one9 rfl) ?_
      refine WD.two (i := 5) (j := 9) (by kernel_rfl) rfl rfl ?_ ?_
      · skip
        refine WL.callV (v := .tuple #[rdv T a c s1, .bool false]) F.fun91 rfl rfl (fun w hS => by have h9 := rskip_c T a c rk (Fm.rowSign (4 - k)) (by first | exact Fm.rowSign_ne _ | simp) hT w (hr.next hS); rw [hs1] at h9; exact h9) ?_
        refine WD.on (closed_of (by kernel_rfl)) (fun w hS => Sx.gone rfl (Sx.gone rfl (Sx.none))) ?_
        refine WD.take (i := 6) rfl rfl rfl rfl (by kernel_rfl) (by kernel_rfl) (by kernel_rfl) (fun _ _ _ h => h) (by kernel_rfl) need_none (Yl.move rfl) ?_
        refine WD.take (i := 7) rfl rfl rfl rfl (by kernel_rfl) (by kernel_rfl) (by kernel_rfl) (fun _ _ _ h => h) (by kernel_rfl) need_none (Yl.extract rfl rfl) ?_
        refine WD.take (i := 8) rfl rfl rfl rfl (by kernel_rfl) (by kernel_rfl) (by kernel_rfl) (fun _ _ _ h => h) (by kernel_rfl) need_none (Yl.extract rfl rfl) ?_
        refine WD.one (i := 9) (by kernel_rfl) rfl ?_
        refine WL.alloc F.zero82 rfl (fun b10 => ?_)
        refine WD.on (closed_of (by kernel_rfl)) (fun w hS => Sx.gone rfl (Sx.gone rfl (Sx.none))) ?_
        refine WD.one (i := 10) (by kernel_rfl) rfl ?_
        refine WL.storeN F.agg82 rfl rfl rfl (by simp [Value.oneCell']) (by repeat (first | exact Upd.here | apply Upd.there)) (by repeat constructor) ?_
        refine WD.on (closed_of (by kernel_rfl)) (fun w hS => Sx.gone rfl (Sx.gone rfl (Sx.none))) ?_
        refine WD.take (i := 11) rfl rfl rfl rfl (by kernel_rfl) (by kernel_rfl) (by kernel_rfl) (fun _ _ _ h => h) (by kernel_rfl) need_none (Yl.assign rfl) ?_
        refine WD.done (by kernel_rfl) ?_
        refine WQ.then_normal ?_
        refine WC.seq ?_
        refine WC.seq ?_
        refine WC.region ?_
        refine WL.step ?_
        refine WL.move rfl rfl ?_
        refine WL.step ?_
        refine WL.not rfl rfl ?_
        refine WL.nil ?_
        refine WQ.then_normal ?_
        refine WC.condT rfl ?_
        refine WC.exit ?_
        refine WQ.then_exit ?_
        refine WQ.block_other rfl ?_
        refine WQ.then_exit ?_
        refine WQ.block_exit ?_
        refine WQ.then_normal ?_
        refine WC.seq ?_
        refine WC.seq ?_
        refine WC.region ?_
        refine WL.step ?_
        refine WL.move rfl rfl ?_
        refine WL.step ?_
        refine WL.lenSl F.und23 rfl rfl ?_
        refine WL.step ?_
        refine WL.eqI rfl rfl rfl ?_
        refine WL.nil ?_
        refine WQ.then_normal ?_
        refine WC.cond rfl (fun h35 => ?_) (fun h35 => ?_)
        · skip
          have hl1 : len = 1 := by simp at h35; omega
          subst hcs
          obtain ⟨t1, rfl⟩ : ∃ t, acc = [t] := List.length_eq_one_iff.1 (by omega)
          refine WC.know (φ := ∃ g a c, ad = some ⟨g, 0, none⟩ ∧ vs = [tv t1 a c]) (fun w hS => St.lone hl1 (St.pick (St.pick hS (c := ownL Fb [t1] vs) (by repeat (first | exact Rem.here | apply Rem.there))) (c := rowc (.slice ad len cap) len 25 3 (flat vs)) (by repeat (first | exact Rem.here | apply Rem.there)))) (fun ⟨g, u, uc, had, hvs⟩ => ?_)
          subst had; subst hvs
          refine WC.seq ?_
          refine WC.drawsL (by kernel_rfl) (FactsOk.cons (ds := [4, 5]) (LoadOk.by (Y := fun w => ∀ j v, [Value.int .u8 t1.op, .string (str t1.name), .slice u t1.kids.length uc][j]? = some v → w.cell? ⟨g, 0 + 0 * 3 + j, none⟩ = some v) (fun w hS => fun j v hv => by have hro : w.ownsRow 0 25 3 (.slice (some ⟨g, 0, none⟩) len cap) len (flat [tv t1 u uc]) := hS.ok (rowc (.slice (some ⟨g, 0, none⟩) len cap) len 25 3 (flat [tv t1 u uc])) (by repeat (first | exact List.Mem.head _ | apply List.Mem.tail)); have hq2 := hro.cells (g := g) rfl j v (by simpa [flat, tv, Value.cells] using hv); rw [add_blk] at hq2; simpa using hq2)) (FactsOk.cons (ds := [5]) (LoadOk.whole (t := 2) rfl (by repeat (first | exact List.Mem.head _ | apply List.Mem.tail))) (FactsOk.nil))) ?_
          refine WD.take (i := 0) rfl rfl rfl rfl (by kernel_rfl) (by kernel_rfl) (by kernel_rfl) (fun _ _ _ h => h) (by kernel_rfl) need_none (Yl.move rfl) ?_
          refine WD.take (i := 1) rfl rfl rfl rfl (by kernel_rfl) (by kernel_rfl) (by kernel_rfl) (fun _ _ _ h => h) (by kernel_rfl) need_none (Yl.indexAddr (i := 0) F.sl23 rfl rfl (by omega)) ?_
          refine WD.take (i := 2) rfl rfl rfl rfl (by kernel_rfl) (by kernel_rfl) (by kernel_rfl) (fun _ _ _ h => h) (by kernel_rfl) (need_at 0 6 rfl (by kernel_rfl)) (Yl.loadN F.agg25 rfl rfl) ?_
          refine WD.take (i := 3) rfl rfl rfl rfl (by kernel_rfl) (by kernel_rfl) (by kernel_rfl) (fun _ _ _ h => h) (by kernel_rfl) (need_at 1 6 rfl (by kernel_rfl)) (Yl.loadN F.agg82 rfl rfl) ?_
          refine WD.one (i := 4) (by kernel_rfl) rfl ?_
          refine WL.storeN F.agg25 rfl rfl rfl (by simp [Value.oneCell']) (by repeat (first | exact Upd.here | apply Upd.there)) (by repeat constructor) ?_
          refine WD.on (closed_of (by kernel_rfl)) (fun w hS => Sx.gone rfl (Sx.keep ((fun j v hv => by rw [Nat.zero_add]; exact hS.cell (by repeat (first | exact List.Mem.head _ | apply List.Mem.tail)) hv)) (Sx.none))) ?_
          refine WD.one (i := 5) (by kernel_rfl) rfl ?_
          refine WL.storeN F.agg82 rfl rfl rfl (by simp [Value.oneCell']) (by repeat (first | exact Upd.here | apply Upd.there)) (by repeat constructor) ?_
          refine WD.on (closed_of (by kernel_rfl)) (fun w hS => Sx.gone rfl (Sx.gone rfl (Sx.none))) ?_
          refine WD.done (by kernel_rfl) ?_
          refine WQ.then_normal ?_
          refine WC.ret ?_
          refine WQ.then_ret ?_
          refine WQ.ret (rs := [.cell 4 25, .cell 5 82]) rfl (.cellN F.agg25 rfl (by repeat (first | exact List.Mem.head _ | apply List.Mem.tail)) rfl (.cellN F.agg82 rfl (by repeat (first | exact List.Mem.head _ | apply List.Mem.tail)) rfl .nil)) (fun w hS => ?_)
          have h2 := St.ownOne (St.pick hS (c := ownL Fb [t1] [tv t1 u uc]) (by repeat (first | exact Rem.here | apply Rem.there)))
          exact ⟨(Fb, u, uc), rfl, h2.one1⟩
        · skip
          have hl1 : acc.length ≠ 1 := by simp at h35; omega
          subst hcs
          rw [mkRow_ne hl1]
          refine WC.skip ?_
          refine WQ.then_normal ?_
          refine WC.seq ?_
          refine WC.drawsL (by kernel_rfl) (FactsOk.cons (ds := [7, 8]) (LoadOk.by (Y := fun w => w.cell? ⟨b18, 0 + k * 1, none⟩ = some (.int .u8 (Fm.rowOp (4 - k)))) (fun w hS => by rw [Nat.zero_add, Nat.mul_one]; exact hS.cell (by repeat (first | exact List.Mem.head _ | apply List.Mem.tail)) hop)) (FactsOk.cons (ds := [8]) (LoadOk.whole (t := 2) rfl (by repeat (first | exact List.Mem.head _ | apply List.Mem.tail))) (FactsOk.nil))) ?_
          refine WD.take (i := 0) rfl rfl rfl rfl (by kernel_rfl) (by kernel_rfl) (by kernel_rfl) (fun _ _ _ h => h) (by kernel_rfl) need_none (Yl.move rfl) ?_
          refine WD.take (i := 1) rfl rfl rfl rfl (by kernel_rfl) (by kernel_rfl) (by kernel_rfl) (fun _ _ _ h => h) (by kernel_rfl) need_none (Yl.move rfl) ?_
          refine WD.take (i := 2) rfl rfl rfl rfl (by kernel_rfl) (by kernel_rfl) (by kernel_rfl) (fun _ _ _ h => h) (by kernel_rfl) need_none (Yl.indexAddr F.sl89 rfl rfl (by omega)) ?_
          refine WD.take (i := 3) rfl rfl rfl rfl (by kernel_rfl) (by kernel_rfl) (by kernel_rfl) (fun _ _ _ h => h) (by kernel_rfl) (need_at 0 9 rfl (by kernel_rfl)) (Yl.load1 F.one5 rfl) ?_
          refine WD.take (i := 4) rfl rfl rfl rfl (by kernel_rfl) (by kernel_rfl) (by kernel_rfl) (fun _ _ _ h => h) (by kernel_rfl) need_none (Yl.move rfl) ?_
          refine WD.take (i := 5) rfl rfl rfl rfl (by kernel_rfl) (by kernel_rfl) (by kernel_rfl) (fun _ _ _ h => h) (by kernel_rfl) need_none (Yl.build F.stT25 rfl (by repeat (first | exact Built.nil | apply Built.one rfl rfl (by repeat constructor) | apply Built.agg rfl rfl (by repeat constructor)))) ?_
          refine WD.take (i := 6) rfl rfl rfl rfl (by kernel_rfl) (by kernel_rfl) (by kernel_rfl) (fun _ _ _ h => h) (by kernel_rfl) (need_at 1 9 rfl (by kernel_rfl)) (Yl.loadN F.agg82 rfl rfl) ?_
          refine WD.one (i := 7) (by kernel_rfl) rfl ?_
          refine WL.storeN F.agg25 rfl rfl rfl (by simp [Value.oneCell']) (by repeat (first | exact Upd.here | apply Upd.there)) (by repeat constructor) ?_
          refine WD.on (closed_of (by kernel_rfl)) (fun w hS => Sx.gone rfl (Sx.keep ((fun j v hv => by rw [Nat.zero_add]; exact hS.cell (by repeat (first | exact List.Mem.head _ | apply List.Mem.tail)) hv)) (Sx.none))) ?_
          refine WD.one (i := 8) (by kernel_rfl) rfl ?_
          refine WL.storeN F.agg82 rfl rfl rfl (by simp [Value.oneCell']) (by repeat (first | exact Upd.here | apply Upd.there)) (by repeat constructor) ?_
          refine WD.on (closed_of (by kernel_rfl)) (fun w hS => Sx.gone rfl (Sx.gone rfl (Sx.none))) ?_
          refine WD.done (by kernel_rfl) ?_
          refine WQ.then_normal ?_
          refine WC.ret ?_
          refine WQ.ret (rs := [.cell 4 25, .cell 5 82]) rfl (.cellN F.agg25 rfl (by repeat (first | exact List.Mem.head _ | apply List.Mem.tail)) rfl (.cellN F.agg82 rfl (by repeat (first | exact List.Mem.head _ | apply List.Mem.tail)) rfl .nil)) (fun w hS => ?_)
          obtain ⟨F2, h2⟩ := St.ownNode (Fm.rowOp (4 - k)) [] hlen (St.pick (St.pick hS (c := ownL Fb acc vs) (by repeat (first | exact Rem.here | apply Rem.there))) (c := rowc (.slice ad len cap) len 25 3 (flat vs)) (by repeat (first | exact Rem.here | apply Rem.there)))
          subst hlen
          exact ⟨(F2, ad, cap), rfl, h2.one1⟩
      · skip
        refine WL.alloc F.zero82 rfl (fun b10 => ?_)
        refine WD.on (closed_of (by kernel_rfl)) (fun w hS => Sx.keep ((fun j v hv => by rw [Nat.zero_add]; exact hS.cell (by repeat (first | exact List.Mem.head _ | apply List.Mem.tail)) hv)) (Sx.keep (by rw [Nat.zero_add, Nat.mul_one]; exact hS.cell (by repeat (first | exact List.Mem.head _ | apply List.Mem.tail)) hsg) (Sx.none))) ?_
        refine WD.one (i := 5) (by kernel_rfl) rfl ?_
        refine WL.callV (v := .tuple #[rdv T a c s1, .bool false]) F.fun91 rfl rfl (fun w hS => by have h9 := rskip_c T a c rk (Fm.rowSign (4 - k)) (by first | exact Fm.rowSign_ne _ | simp) hT w (hr.next hS); rw [hs1] at h9; exact h9) ?_
        refine WD.on (closed_of (by kernel_rfl)) (fun w hS => Sx.gone rfl (Sx.gone rfl (Sx.none))) ?_
        refine WD.take (i := 6) rfl rfl rfl rfl (by kernel_rfl) (by kernel_rfl) (by kernel_rfl) (fun _ _ _ h => h) (by kernel_rfl) need_none (Yl.move rfl) ?_
        refine WD.take (i := 7) rfl rfl rfl rfl (by kernel_rfl) (by kernel_rfl) (by kernel_rfl) (fun _ _ _ h => h) (by kernel_rfl) need_none (Yl.extract rfl rfl) ?_
        refine WD.take (i := 8) rfl rfl rfl rfl (by kernel_rfl) (by kernel_rfl) (by kernel_rfl) (fun _ _ _ h => h) (by kernel_rfl) need_none (Yl.extract rfl rfl) ?_
        refine WD.one (i := 10) (by kernel_rfl) rfl ?_
        refine WL.storeN F.agg82 rfl rfl rfl (by simp [Value.oneCell']) (by repeat (first | exact Upd.here | apply Upd.there)) (by repeat constructor) ?_
        refine WD.on (closed_of (by kernel_rfl)) (fun w hS => Sx.gone rfl (Sx.gone rfl (Sx.none))) ?_
        refine WD.take (i := 11) rfl rfl rfl rfl (by kernel_rfl) (by kernel_rfl) (by kernel_rfl) (fun _ _ _ h => h) (by kernel_rfl) need_none (Yl.assign rfl) ?_
        refine WD.done (by kernel_rfl) ?_
        refine WQ.then_normal ?_
        refine WC.seq ?_
        refine WC.seq ?_
        refine WC.region ?_
        refine WL.step ?_
        refine WL.move rfl rfl ?_
        refine WL.step ?_
        refine WL.not rfl rfl ?_
        refine WL.nil ?_
        refine WQ.then_normal ?_
        refine WC.condT rfl ?_
        refine WC.exit ?_
        refine WQ.then_exit ?_
        refine WQ.block_other rfl ?_
        refine WQ.then_exit ?_
        refine WQ.block_exit ?_
        refine WQ.then_normal ?_
        refine WC.seq ?_
        refine WC.seq ?_
        refine WC.region ?_
        refine WL.step ?_
        refine WL.move rfl rfl ?_
        refine WL.step ?_
        refine WL.lenSl F.und23 rfl rfl ?_
        refine WL.step ?_
        refine WL.eqI rfl rfl rfl ?_
        refine WL.nil ?_
        refine WQ.then_normal ?_
        refine WC.cond rfl (fun h35 => ?_) (fun h35 => ?_)
        · skip
          have hl1 : len = 1 := by simp at h35; omega
          subst hcs
          obtain ⟨t1, rfl⟩ : ∃ t, acc = [t] := List.length_eq_one_iff.1 (by omega)
          refine WC.know (φ := ∃ g a c, ad = some ⟨g, 0, none⟩ ∧ vs = [tv t1 a c]) (fun w hS => St.lone hl1 (St.pick (St.pick hS (c := ownL Fb [t1] vs) (by repeat (first | exact Rem.here | apply Rem.there))) (c := rowc (.slice ad len cap) len 25 3 (flat vs)) (by repeat (first | exact Rem.here | apply Rem.there)))) (fun ⟨g, u, uc, had, hvs⟩ => ?_)
          subst had; subst hvs
          refine WC.seq ?_
          refine WC.drawsL (by kernel_rfl) (FactsOk.cons (ds := [4, 5]) (LoadOk.by (Y := fun w => ∀ j v, [Value.int .u8 t1.op, .string (str t1.name), .slice u t1.kids.length uc][j]? = some v → w.cell? ⟨g, 0 + 0 * 3 + j, none⟩ = some v) (fun w hS => fun j v hv => by have hro : w.ownsRow 0 25 3 (.slice (some ⟨g, 0, none⟩) len cap) len (flat [tv t1 u uc]) := hS.ok (rowc (.slice (some ⟨g, 0, none⟩) len cap) len 25 3 (flat [tv t1 u uc])) (by repeat (first | exact List.Mem.head _ | apply List.Mem.tail)); have hq2 := hro.cells (g := g) rfl j v (by simpa [flat, tv, Value.cells] using hv); rw [add_blk] at hq2; simpa using hq2)) (FactsOk.cons (ds := [5]) (LoadOk.whole (t := 2) rfl (by repeat (first | exact List.Mem.head _ | apply List.Mem.tail))) (FactsOk.nil))) ?_
          refine WD.take (i := 0) rfl rfl rfl rfl (by kernel_rfl) (by kernel_rfl) (by kernel_rfl) (fun _ _ _ h => h) (by kernel_rfl) need_none (Yl.move rfl) ?_
          refine WD.take (i := 1) rfl rfl rfl rfl (by kernel_rfl) (by kernel_rfl) (by kernel_rfl) (fun _ _ _ h => h) (by kernel_rfl) need_none (Yl.indexAddr (i := 0) F.sl23 rfl rfl (by omega)) ?_
          refine WD.take (i := 2) rfl rfl rfl rfl (by kernel_rfl) (by kernel_rfl) (by kernel_rfl) (fun _ _ _ h => h) (by kernel_rfl) (need_at 0 6 rfl (by kernel_rfl)) (Yl.loadN F.agg25 rfl rfl) ?_
          refine WD.take (i := 3) rfl rfl rfl rfl (by kernel_rfl) (by kernel_rfl) (by kernel_rfl) (fun _ _ _ h => h) (by kernel_rfl) (need_at 1 6 rfl (by kernel_rfl)) (Yl.loadN F.agg82 rfl rfl) ?_
          refine WD.one (i := 4) (by kernel_rfl) rfl ?_
          refine WL.storeN F.agg25 rfl rfl rfl (by simp [Value.oneCell']) (by repeat (first | exact Upd.here | apply Upd.there)) (by repeat constructor) ?_
          refine WD.on (closed_of (by kernel_rfl)) (fun w hS => Sx.gone rfl (Sx.keep ((fun j v hv => by rw [Nat.zero_add]; exact hS.cell (by repeat (first | exact List.Mem.head _ | apply List.Mem.tail)) hv)) (Sx.none))) ?_
          refine WD.one (i := 5) (by kernel_rfl) rfl ?_
          refine WL.storeN F.agg82 rfl rfl rfl (by simp [Value.oneCell']) (by repeat (first | exact Upd.here | apply Upd.there)) (by repeat constructor) ?_
          refine WD.on (closed_of (by kernel_rfl)) (fun w hS => Sx.gone rfl (Sx.gone rfl (Sx.none))) ?_
          refine WD.done (by kernel_rfl) ?_
          refine WQ.then_normal ?_
          refine WC.ret ?_
          refine WQ.then_ret ?_
          refine WQ.ret (rs := [.cell 4 25, .cell 5 82]) rfl (.cellN F.agg25 rfl (by repeat (first | exact List.Mem.head _ | apply List.Mem.tail)) rfl (.cellN F.agg82 rfl (by repeat (first | exact List.Mem.head _ | apply List.Mem.tail)) rfl .nil)) (fun w hS => ?_)
          have h2 := St.ownOne (St.pick hS (c := ownL Fb [t1] [tv t1 u uc]) (by repeat (first | exact Rem.here | apply Rem.there)))
          exact ⟨(Fb, u, uc), rfl, h2.one1⟩
        · skip
          have hl1 : acc.length ≠ 1 := by simp at h35; omega
          subst hcs
          rw [mkRow_ne hl1]
          refine WC.skip ?_
          refine WQ.then_normal ?_
          refine WC.seq ?_
          refine WC.drawsL (by kernel_rfl) (FactsOk.cons (ds := [7, 8]) (LoadOk.by (Y := fun w => w.cell? ⟨b18, 0 + k * 1, none⟩ = some (.int .u8 (Fm.rowOp (4 - k)))) (fun w hS => by rw [Nat.zero_add, Nat.mul_one]; exact hS.cell (by repeat (first | exact List.Mem.head _ | apply List.Mem.tail)) hop)) (FactsOk.cons (ds := [8]) (LoadOk.whole (t := 2) rfl (by repeat (first | exact List.Mem.head _ | apply List.Mem.tail))) (FactsOk.nil))) ?_
          refine WD.take (i := 0) rfl rfl rfl rfl (by kernel_rfl) (by kernel_rfl) (by kernel_rfl) (fun _ _ _ h => h) (by kernel_rfl) need_none (Yl.move rfl) ?_
          refine WD.take (i := 1) rfl rfl rfl rfl (by kernel_rfl) (by kernel_rfl) (by kernel_rfl) (fun _ _ _ h => h) (by kernel_rfl) need_none (Yl.move rfl) ?_
          refine WD.take (i := 2) rfl rfl rfl rfl (by kernel_rfl) (by kernel_rfl) (by kernel_rfl) (fun _ _ _ h => h) (by kernel_rfl) need_none (Yl.indexAddr F.sl89 rfl rfl (by omega)) ?_
          refine WD.take (i := 3) rfl rfl rfl rfl (by kernel_rfl) (by kernel_rfl) (by kernel_rfl) (fun _ _ _ h => h) (by kernel_rfl) (need_at 0 9 rfl (by kernel_rfl)) (Yl.load1 F.one5 rfl) ?_
          refine WD.take (i := 4) rfl rfl rfl rfl (by kernel_rfl) (by kernel_rfl) (by kernel_rfl) (fun _ _ _ h => h) (by kernel_rfl) need_none (Yl.move rfl) ?_
          refine WD.take (i := 5) rfl rfl rfl rfl (by kernel_rfl) (by kernel_rfl) (by kernel_rfl) (fun _ _ _ h => h) (by kernel_rfl) need_none (Yl.build F.stT25 rfl (by repeat (first | exact Built.nil | apply Built.one rfl rfl (by repeat constructor) | apply Built.agg rfl rfl (by repeat constructor)))) ?_
          refine WD.take (i := 6) rfl rfl rfl rfl (by kernel_rfl) (by kernel_rfl) (by kernel_rfl) (fun _ _ _ h => h) (by kernel_rfl) (need_at 1 9 rfl (by kernel_rfl)) (Yl.loadN F.agg82 rfl rfl) ?_
          refine WD.one (i := 7) (by kernel_rfl) rfl ?_
          refine WL.storeN F.agg25 rfl rfl rfl (by simp [Value.oneCell']) (by repeat (first | exact Upd.here | apply Upd.there)) (by repeat constructor) ?_
          refine WD.on (closed_of (by kernel_rfl)) (fun w hS => Sx.gone rfl (Sx.keep ((fun j v hv => by rw [Nat.zero_add]; exact hS.cell (by repeat (first | exact List.Mem.head _ | apply List.Mem.tail)) hv)) (Sx.none))) ?_
          refine WD.one (i := 8) (by kernel_rfl) rfl ?_
          refine WL.storeN F.agg82 rfl rfl rfl (by simp [Value.oneCell']) (by repeat (first | exact Upd.here | apply Upd.there)) (by repeat constructor) ?_
          refine WD.on (closed_of (by kernel_rfl)) (fun w hS => Sx.gone rfl (Sx.gone rfl (Sx.none))) ?_
          refine WD.done (by kernel_rfl) ?_
          refine WQ.then_normal ?_
          refine WC.ret ?_
          refine WQ.ret (rs := [.cell 4 25, .cell 5 82]) rfl (.cellN F.agg25 rfl (by repeat (first | exact List.Mem.head _ | apply List.Mem.tail)) rfl (.cellN F.agg82 rfl (by repeat (first | exact List.Mem.head _ | apply List.Mem.tail)) rfl .nil)) (fun w hS => ?_)
          obtain ⟨F2, h2⟩ := St.ownNode (Fm.rowOp (4 - k)) [] hlen (St.pick (St.pick hS (c := ownL Fb acc vs) (by repeat (first | exact Rem.here | apply Rem.there))) (c := rowc (.slice ad len cap) len 25 3 (flat vs)) (by repeat (first | exact Rem.here | apply Rem.there)))
          subst hlen
          exact ⟨(F2, ad, cap), rfl, h2.one1⟩
    · skip
      rw [hs1] at hrk
      dsimp only at hrk
      rw [if_pos rfl] at hrk
      obtain ⟨⟨t2, r2⟩, h2, hrk2⟩ := Option.bind_eq_some_iff.1 hrk
      dsimp only at hrk2
      have hs1lt : rk.1 < T.length ∧ s1 = (rk.1 + 1, rk.2) := by
        unfold Fm.rskip at hs1
        split at hs1
        · rename_i hw
          obtain ⟨_, tk, htk, _⟩ := rword_lt (T := T) (r := rk) (by rw [hw]; exact Fm.rowSign_ne _)
          exact ⟨(List.getElem?_eq_some_iff.1 htk).1, by injection hs1 with hs1 _; exact hs1.symm⟩
        · cases hs1
      obtain ⟨hrlt, rfl⟩ := hs1lt
      refine WC.drawsL (by kernel_rfl) (FactsOk.cons (ds := [5, 10]) (LoadOk.whole (t := 2) rfl (by repeat (first | exact List.Mem.head _ | apply List.Mem.tail))) (FactsOk.cons (ds := [5, 10]) (LoadOk.by (Y := fun w => w.cell? ⟨b19, 0 + k * 1, none⟩ = some (.string (str (Fm.rowSign (4 - k))))) (fun w hS => by rw [Nat.zero_add, Nat.mul_one]; exact hS.cell (by repeat (first | exact List.Mem.head _ | apply List.Mem.tail)) hsg)) (FactsOk.nil))) ?_
      refine WD.take (i := 0) rfl rfl rfl rfl (by kernel_rfl) (by kernel_rfl) (by kernel_rfl) (fun _ _ _ h => h) (by kernel_rfl) (need_at 0 12 rfl (by kernel_rfl)) (Yl.loadN F.agg82 rfl rfl) ?_
      refine WD.take (i := 1) rfl rfl rfl rfl (by kernel_rfl) (by kernel_rfl) (by kernel_rfl) (fun _ _ _ h => h) (by kernel_rfl) need_none (Yl.move rfl) ?_
      refine WD.take (i := 2) rfl rfl rfl rfl (by kernel_rfl) (by kernel_rfl) (by kernel_rfl) (fun _ _ _ h => h) (by kernel_rfl) need_none (Yl.move rfl) ?_
      refine WD.take (i := 3) rfl rfl rfl rfl (by kernel_rfl) (by kernel_rfl) (by kernel_rfl) (fun _ _ _ h => h) (by kernel_rfl) need_none (Yl.indexAddr F.sl61 rfl rfl (by omega)) ?_
      refine WD.take (i := 4) rfl rfl rfl rfl (by kernel_rfl) (by kernel_rfl) (by kernel_rfl) (fun _ _ _ h => h) (by kernel_rfl) (need_at 1 12 rfl (by kernel_rfl)) (Yl.load1 F.one9 rfl) ?_
      refine WD.two (i := 5) (j := 9) (by kernel_rfl) rfl rfl ?_ ?_
      · skip
        refine WL.callV (v := .tuple #[rdv T a c (rk.1 + 1, rk.2), .bool true]) F.fun91 rfl rfl (fun w hS => by have h9 := rskip_c T a c rk (Fm.rowSign (4 - k)) (by first | exact Fm.rowSign_ne _ | simp) hT w (hr.next hS); rw [hs1] at h9; exact h9) ?_
        refine WD.on (closed_of (by kernel_rfl)) (fun w hS => Sx.gone rfl (Sx.gone rfl (Sx.none))) ?_
        refine WD.take (i := 6) rfl rfl rfl rfl (by kernel_rfl) (by kernel_rfl) (by kernel_rfl) (fun _ _ _ h => h) (by kernel_rfl) need_none (Yl.move rfl) ?_
        refine WD.take (i := 7) rfl rfl rfl rfl (by kernel_rfl) (by kernel_rfl) (by kernel_rfl) (fun _ _ _ h => h) (by kernel_rfl) need_none (Yl.extract rfl rfl) ?_
        refine WD.take (i := 8) rfl rfl rfl rfl (by kernel_rfl) (by kernel_rfl) (by kernel_rfl) (fun _ _ _ h => h) (by kernel_rfl) need_none (Yl.extract rfl rfl) ?_
        refine WD.one (i := 9) (by kernel_rfl) rfl ?_
        refine WL.alloc F.zero82 rfl (fun b10 => ?_)
        refine WD.on (closed_of (by kernel_rfl)) (fun w hS => Sx.gone rfl (Sx.gone rfl (Sx.none))) ?_
        refine WD.one (i := 10) (by kernel_rfl) rfl ?_
        refine WL.storeN F.agg82 rfl rfl rfl (by simp [Value.oneCell']) (by repeat (first | exact Upd.here | apply Upd.there)) (by repeat constructor) ?_
        refine WD.on (closed_of (by kernel_rfl)) (fun w hS => Sx.gone rfl (Sx.gone rfl (Sx.none))) ?_
        refine WD.take (i := 11) rfl rfl rfl rfl (by kernel_rfl) (by kernel_rfl) (by kernel_rfl) (fun _ _ _ h => h) (by kernel_rfl) need_none (Yl.assign rfl) ?_
        refine WD.done (by kernel_rfl) ?_
        refine WQ.then_normal ?_
        refine WC.seq ?_
        refine WC.seq ?_
        refine WC.region ?_
        refine WL.step ?_
        refine WL.move rfl rfl ?_
        refine WL.step ?_
        refine WL.not rfl rfl ?_
        refine WL.nil ?_
        refine WQ.then_normal ?_
        refine WC.condF rfl ?_
        refine WC.skip ?_
        refine WQ.then_normal ?_
        refine WC.seq ?_
        refine WC.region ?_
        refine WL.step ?_
        refine WL.loadW F.agg82 rfl rfl (by repeat (first | exact List.Mem.head _ | apply List.Mem.tail)) rfl ?_
        refine WL.step ?_
        refine WL.move rfl rfl ?_
        refine WL.step ?_
        refine WL.sub rfl rfl rfl ⟨by omega, by omega⟩ ?_
        refine WL.step ?_
        refine WL.callC (β := List Nat × Option Addr × Nat) (res := fun y => .tuple #[tv t2 y.2.1 y.2.2, rdv T a c r2]) (cs := fun y => [own y.1 t2 (tv t2 y.2.1 y.2.2)]) (Cs := []) (O' := []) F.fun106 (fun d h => by cases h; rfl) rfl (List.Perm.refl _) (by simp) (by simp) (fun w hS _ => hrow hk1 m (by omega) (rk.1 + 1, rk.2) (t2, r2) w (hr.next hS) h2) (fun y44 => ?_)
        refine WL.step ?_
        refine WL.move rfl rfl ?_
        refine WL.step ?_
        refine WL.extract rfl rfl rfl ?_
        refine WL.step ?_
        refine WL.extract rfl rfl rfl ?_
        refine WL.step ?_
        refine WL.storeN F.agg25 rfl rfl rfl (by simp [Value.oneCell']) (by repeat (first | exact Upd.here | apply Upd.there)) (by repeat constructor) ?_
        refine WL.step ?_
        refine WL.storeN F.agg82 rfl rfl rfl (by simp [Value.oneCell']) (by repeat (first | exact Upd.here | apply Upd.there)) (by repeat constructor) ?_
        refine WL.nil ?_
        refine WQ.then_normal ?_
        refine WC.region ?_
        refine WL.step ?_
        refine WL.move rfl rfl ?_
        refine WL.step ?_
        refine WL.loadW F.agg25 rfl rfl (by repeat (first | exact List.Mem.head _ | apply List.Mem.tail)) rfl ?_
        refine WL.step ?_
        refine WL.buildSlice F.sl23 F.ez23 rfl rfl rfl rfl (by repeat (first | exact Built.nil | apply Built.one rfl rfl (by repeat constructor) | apply Built.agg rfl rfl (by repeat constructor))) rfl (fun b49 => ?_)
        refine WL.step ?_
        refine WL.appendE (news := [Value.int .u8 t2.op, .string (str t2.name), .slice y44.2.1 t2.kids.length y44.2.2]) F.el23 rfl rfl rfl (by repeat (first | exact Rem.here | apply Rem.there)) (fun w hS j u hu => by rw [Nat.zero_add]; exact hS.cell (cs := [Value.int .u8 t2.op, .string (str t2.name), .slice y44.2.1 t2.kids.length y44.2.2]) (by repeat (first | exact List.Mem.head _ | apply List.Mem.tail)) hu) rfl (by simp [Value.oneCell']) (Nat.le_trans (m := 2199023255552) (by omega) (by decide)) (by omega) (fun ad2 cap2 => ?_)
        refine WL.step ?_
        refine WL.assign rfl rfl ?_
        refine WL.nil ?_
        refine WQ.block_normal ?_
        refine WQ.chunks (C' := [pt b2 [Value.slice a T.length c, .int .i64 (r2.1 : Int), .bool r2.2] 82, rowc (.slice ad2 (len + 1) cap2) (len + 1) 25 3 (cells ++ [Value.int .u8 t2.op, .string (str t2.name), .slice y44.2.1 t2.kids.length y44.2.2]), ownL (Fb ++ y44.1) (acc ++ [t2]) (vs ++ [tv t2 y44.2.1 y44.2.2]), pt b18 [Value.int .u8 0, .int .u8 0, .int .u8 5, .int .u8 7, .int .u8 6] 5, pt b19 [Value.string (str []), .string (str []), .string (str [38]), .string (str [94]), .string (str [124])] 9, pt b8 [Value.int .u8 t2.op, .string (str t2.name), .slice y44.2.1 t2.kids.length y44.2.2] 25, pt b4 [Value.int .u8 0, .string (str []), .slice none 0 0] 25, pt b5 [Value.slice none 0 0, .int .i64 0, .bool false] 82]) (fun w hS => ?_) ?_
        · have h2 := St.ownSnoc (St.pick (St.pick hS (c := own y44.1 t2 (tv t2 y44.2.1 y44.2.2)) (by repeat (first | exact Rem.here | apply Rem.there))) (c := ownL Fb acc vs) (by repeat (first | exact Rem.here | apply Rem.there)))
          exact ((St.pick (St.pick (St.pick (St.pick (St.pick (St.pick (St.pick (St.pick h2 (c := pt b5 [Value.slice none 0 0, .int .i64 0, .bool false] 82) (by repeat (first | exact Rem.here | apply Rem.there))) (c := pt b4 [Value.int .u8 0, .string (str []), .slice none 0 0] 25) (by repeat (first | exact Rem.here | apply Rem.there))) (c := pt b8 [Value.int .u8 t2.op, .string (str t2.name), .slice y44.2.1 t2.kids.length y44.2.2] 25) (by repeat (first | exact Rem.here | apply Rem.there))) (c := pt b19 [Value.string (str []), .string (str []), .string (str [38]), .string (str [94]), .string (str [124])] 9) (by repeat (first | exact Rem.here | apply Rem.there))) (c := pt b18 [Value.int .u8 0, .int .u8 0, .int .u8 5, .int .u8 7, .int .u8 6] 5) (by repeat (first | exact Rem.here | apply Rem.there))) (c := ownL (Fb ++ y44.1) (acc ++ [t2]) (vs ++ [tv t2 y44.2.1 y44.2.2])) (by repeat (first | exact Rem.here | apply Rem.there))) (c := rowc (.slice ad2 (len + 1) cap2) (len + 1) 25 3 (cells ++ [Value.int .u8 t2.op, .string (str t2.name), .slice y44.2.1 t2.kids.length y44.2.2])) (by repeat (first | exact Rem.here | apply Rem.there))) (c := pt b2 [Value.slice a T.length c, .int .i64 (r2.1 : Int), .bool r2.2] 82) (by repeat (first | exact Rem.here | apply Rem.there)))).sublist (List.Sublist.cons_cons _ (List.Sublist.cons_cons _ (List.Sublist.cons_cons _ (List.Sublist.cons_cons _ (List.Sublist.cons_cons _ (List.Sublist.cons_cons _ (List.Sublist.cons_cons _ (List.Sublist.cons_cons _ (List.nil_sublist _)))))))))
        refine WQ.back (⟨m, acc ++ [t2], Fb ++ y44.1, vs ++ [tv t2 y44.2.1 y44.2.2], len + 1, cells ++ [Value.int .u8 t2.op, .string (str t2.name), .slice y44.2.1 t2.kids.length y44.2.2], ad2, cap2, r2, [Value.int .u8 t2.op, .string (str t2.name), .slice y44.2.1 t2.kids.length y44.2.2]⟩) ?_ ?_ ?_ ?_
        · exact ⟨by show m ≤ n; omega, by show (acc ++ [t2]).length + (T.length - r2.1) ≤ _; have g2 := Fm.rp_ge _ _ _ _ h2; simp at g2 ⊢; omega, by show len + 1 = (acc ++ [t2]).length; simp [hlen], by show cells ++ _ = flat (vs ++ [_]); rw [hcs, flat_append]; simp [flat, tv, Value.cells], rfl, hrk2⟩
        · exact Nat.lt_succ_self m
        · exact ⟨rfl, rfl, rfl, rfl, rfl, rfl, rfl, rfl, trivial⟩
        · rfl
      · skip
        refine WL.alloc F.zero82 rfl (fun b10 => ?_)
        refine WD.on (closed_of (by kernel_rfl)) (fun w hS => Sx.keep ((fun j v hv => by rw [Nat.zero_add]; exact hS.cell (by repeat (first | exact List.Mem.head _ | apply List.Mem.tail)) hv)) (Sx.keep (by rw [Nat.zero_add, Nat.mul_one]; exact hS.cell (by repeat (first | exact List.Mem.head _ | apply List.Mem.tail)) hsg) (Sx.none))) ?_
        refine WD.one (i := 5) (by kernel_rfl) rfl ?_
        refine WL.callV (v := .tuple #[rdv T a c (rk.1 + 1, rk.2), .bool true]) F.fun91 rfl rfl (fun w hS => by have h9 := rskip_c T a c rk (Fm.rowSign (4 - k)) (by first | exact Fm.rowSign_ne _ | simp) hT w (hr.next hS); rw [hs1] at h9; exact h9) ?_
        refine WD.on (closed_of (by kernel_rfl)) (fun w hS => Sx.gone rfl (Sx.gone rfl (Sx.none))) ?_
        refine WD.take (i := 6) rfl rfl rfl rfl (by kernel_rfl) (by kernel_rfl) (by kernel_rfl) (fun _ _ _ h => h) (by kernel_rfl) need_none (Yl.move rfl) ?_
        refine WD.take (i := 7) rfl rfl rfl rfl (by kernel_rfl) (by kernel_rfl) (by kernel_rfl) (fun _ _ _ h => h) (by kernel_rfl) need_none (Yl.extract rfl rfl) ?_
        refine WD.take (i := 8) rfl rfl rfl rfl (by kernel_rfl) (by kernel_rfl) (by kernel_rfl) (fun _ _ _ h => h) (by kernel_rfl) need_none (Yl.extract rfl rfl) ?_
        refine WD.one (i := 10) (by kernel_rfl) rfl ?_
        refine WL.storeN F.agg82 rfl rfl rfl (by simp [Value.oneCell']) (by repeat (first | exact Upd.here | apply Upd.there)) (by repeat constructor) ?_
        refine WD.on (closed_of (by kernel_rfl)) (fun w hS => Sx.gone rfl (Sx.gone rfl (Sx.none))) ?_
        refine WD.take (i := 11) rfl rfl rfl rfl (by kernel_rfl) (by kernel_rfl) (by kernel_rfl) (fun _ _ _ h => h) (by kernel_rfl) need_none (Yl.assign rfl) ?_
        refine WD.done (by kernel_rfl) ?_
        refine WQ.then_normal ?_
        refine WC.seq ?_
        refine WC.seq ?_
        refine WC.region ?_
        refine WL.step ?_
        refine WL.move rfl rfl ?_
        refine WL.step ?_
        refine WL.not rfl rfl ?_
        refine WL.nil ?_
        refine WQ.then_normal ?_
        refine WC.condF rfl ?_
        refine WC.skip ?_
        refine WQ.then_normal ?_
        refine WC.seq ?_
        refine WC.region ?_
        refine WL.step ?_
        refine WL.loadW F.agg82 rfl rfl (by repeat (first | exact List.Mem.head _ | apply List.Mem.tail)) rfl ?_
        refine WL.step ?_
        refine WL.move rfl rfl ?_
        refine WL.step ?_
        refine WL.sub rfl rfl rfl ⟨by omega, by omega⟩ ?_
        refine WL.step ?_
        refine WL.callC (β := List Nat × Option Addr × Nat) (res := fun y => .tuple #[tv t2 y.2.1 y.2.2, rdv T a c r2]) (cs := fun y => [own y.1 t2 (tv t2 y.2.1 y.2.2)]) (Cs := []) (O' := []) F.fun106 (fun d h => by cases h; rfl) rfl (List.Perm.refl _) (by simp) (by simp) (fun w hS _ => hrow hk1 m (by omega) (rk.1 + 1, rk.2) (t2, r2) w (hr.next hS) h2) (fun y44 => ?_)
        refine WL.step ?_
        refine WL.move rfl rfl ?_
        refine WL.step ?_
        refine WL.extract rfl rfl rfl ?_
        refine WL.step ?_
        refine WL.extract rfl rfl rfl ?_
        refine WL.step ?_
        refine WL.storeN F.agg25 rfl rfl rfl (by simp [Value.oneCell']) (by repeat (first | exact Upd.here | apply Upd.there)) (by repeat constructor) ?_
        refine WL.step ?_
        refine WL.storeN F.agg82 rfl rfl rfl (by simp [Value.oneCell']) (by repeat (first | exact Upd.here | apply Upd.there)) (by repeat constructor) ?_
        refine WL.nil ?_
        refine WQ.then_normal ?_
        refine WC.region ?_
        refine WL.step ?_
        refine WL.move rfl rfl ?_
        refine WL.step ?_
        refine WL.loadW F.agg25 rfl rfl (by repeat (first | exact List.Mem.head _ | apply List.Mem.tail)) rfl ?_
        refine WL.step ?_
        refine WL.buildSlice F.sl23 F.ez23 rfl rfl rfl rfl (by repeat (first | exact Built.nil | apply Built.one rfl rfl (by repeat constructor) | apply Built.agg rfl rfl (by repeat constructor))) rfl (fun b49 => ?_)
        refine WL.step ?_
        refine WL.appendE (news := [Value.int .u8 t2.op, .string (str t2.name), .slice y44.2.1 t2.kids.length y44.2.2]) F.el23 rfl rfl rfl (by repeat (first | exact Rem.here | apply Rem.there)) (fun w hS j u hu => by rw [Nat.zero_add]; exact hS.cell (cs := [Value.int .u8 t2.op, .string (str t2.name), .slice y44.2.1 t2.kids.length y44.2.2]) (by repeat (first | exact List.Mem.head _ | apply List.Mem.tail)) hu) rfl (by simp [Value.oneCell']) (Nat.le_trans (m := 2199023255552) (by omega) (by decide)) (by omega) (fun ad2 cap2 => ?_)
        refine WL.step ?_
        refine WL.assign rfl rfl ?_
        refine WL.nil ?_
        refine WQ.block_normal ?_
        refine WQ.chunks (C' := [pt b2 [Value.slice a T.length c, .int .i64 (r2.1 : Int), .bool r2.2] 82, rowc (.slice ad2 (len + 1) cap2) (len + 1) 25 3 (cells ++ [Value.int .u8 t2.op, .string (str t2.name), .slice y44.2.1 t2.kids.length y44.2.2]), ownL (Fb ++ y44.1) (acc ++ [t2]) (vs ++ [tv t2 y44.2.1 y44.2.2]), pt b18 [Value.int .u8 0, .int .u8 0, .int .u8 5, .int .u8 7, .int .u8 6] 5, pt b19 [Value.string (str []), .string (str []), .string (str [38]), .string (str [94]), .string (str [124])] 9, pt b8 [Value.int .u8 t2.op, .string (str t2.name), .slice y44.2.1 t2.kids.length y44.2.2] 25, pt b4 [Value.int .u8 0, .string (str []), .slice none 0 0] 25, pt b5 [Value.slice none 0 0, .int .i64 0, .bool false] 82]) (fun w hS => ?_) ?_
        · have h2 := St.ownSnoc (St.pick (St.pick hS (c := own y44.1 t2 (tv t2 y44.2.1 y44.2.2)) (by repeat (first | exact Rem.here | apply Rem.there))) (c := ownL Fb acc vs) (by repeat (first | exact Rem.here | apply Rem.there)))
          exact ((St.pick (St.pick (St.pick (St.pick (St.pick (St.pick (St.pick (St.pick h2 (c := pt b5 [Value.slice none 0 0, .int .i64 0, .bool false] 82) (by repeat (first | exact Rem.here | apply Rem.there))) (c := pt b4 [Value.int .u8 0, .string (str []), .slice none 0 0] 25) (by repeat (first | exact Rem.here | apply Rem.there))) (c := pt b8 [Value.int .u8 t2.op, .string (str t2.name), .slice y44.2.1 t2.kids.length y44.2.2] 25) (by repeat (first | exact Rem.here | apply Rem.there))) (c := pt b19 [Value.string (str []), .string (str []), .string (str [38]), .string (str [94]), .string (str [124])] 9) (by repeat (first | exact Rem.here | apply Rem.there))) (c := pt b18 [Value.int .u8 0, .int .u8 0, .int .u8 5, .int .u8 7, .int .u8 6] 5) (by repeat (first | exact Rem.here | apply Rem.there))) (c := ownL (Fb ++ y44.1) (acc ++ [t2]) (vs ++ [tv t2 y44.2.1 y44.2.2])) (by repeat (first | exact Rem.here | apply Rem.there))) (c := rowc (.slice ad2 (len + 1) cap2) (len + 1) 25 3 (cells ++ [Value.int .u8 t2.op, .string (str t2.name), .slice y44.2.1 t2.kids.length y44.2.2])) (by repeat (first | exact Rem.here | apply Rem.there))) (c := pt b2 [Value.slice a T.length c, .int .i64 (r2.1 : Int), .bool r2.2] 82) (by repeat (first | exact Rem.here | apply Rem.there)))).sublist (List.Sublist.cons_cons _ (List.Sublist.cons_cons _ (List.Sublist.cons_cons _ (List.Sublist.cons_cons _ (List.Sublist.cons_cons _ (List.Sublist.cons_cons _ (List.Sublist.cons_cons _ (List.Sublist.cons_cons _ (List.nil_sublist _)))))))))
        refine WQ.back (⟨m, acc ++ [t2], Fb ++ y44.1, vs ++ [tv t2 y44.2.1 y44.2.2], len + 1, cells ++ [Value.int .u8 t2.op, .string (str t2.name), .slice y44.2.1 t2.kids.length y44.2.2], ad2, cap2, r2, [Value.int .u8 t2.op, .string (str t2.name), .slice y44.2.1 t2.kids.length y44.2.2]⟩) ?_ ?_ ?_ ?_
        · exact ⟨by show m ≤ n; omega, by show (acc ++ [t2]).length + (T.length - r2.1) ≤ _; have g2 := Fm.rp_ge _ _ _ _ h2; simp at g2 ⊢; omega, by show len + 1 = (acc ++ [t2]).length; simp [hlen], by show cells ++ _ = flat (vs ++ [_]); rw [hcs, flat_append]; simp [flat, tv, Value.cells], rfl, hrk2⟩
        · exact Nat.lt_succ_self m
        · exact ⟨rfl, rfl, rfl, rfl, rfl, rfl, rfl, rfl, trivial⟩
        · rfl

/-- The reader's functions, all of them. -/
theorem reader_all (T : List Fm.Tk) (a : Option Addr) (c : Nat) (hT : T.length ≤ 1099511627776) : ∀ n, RC T a c 113 [] .least n ∧ (∀ k : Nat, 1 ≤ k → k ≤ 4 → RC T a c 106 [.int .i64 (k : Int)] (.row (4 - k)) n) ∧ RC T a c 90 [] .implies n ∧ RC T a c 49 [] .choice n := by
  intro n
  induction n using Nat.strongRecOn with
  | ind n ih =>
    cases n with
    | zero =>
      refine ⟨?_, ?_, ?_, ?_⟩
      · intro r q w _ h; simp [Fm.rp] at h
      · intro k _ _ r q w _ h; simp [Fm.rp] at h
      · intro r q w _ h; simp [Fm.rp] at h
      · intro r q w _ h; simp [Fm.rp] at h
    | succ n =>
      obtain ⟨h1, h2, h3, h4⟩ := ih n (Nat.lt_succ_self n)
      refine ⟨rleast_c T a c hT n h1 h4, ?_, rimplies_c T a c hT n (h2 4 (by omega) (by omega)) h3, rchoice_c T a c hT n h3 h4⟩
      intro k hk0 hk4
      refine rrow_c T a c hT n k hk0 hk4 h1 (fun hk2 m hm => ?_)
      have h5 := (ih m (by omega)).2.1 (k - 1) (by omega) (by omega)
      rw [show 4 - (k - 1) = 4 - k + 1 by omega, show (((k - 1 : Nat) : Int)) = (k : Int) - 1 by omega] at h5
      exact h5

end Go.Proofs.Ytbippghgkbapnaa

namespace Go.Proofs.Ytbippghgkbapnaa
open Go Go.Eng Go.Proofs
def tkc (T : List Fm.Tk) : List Value := T.flatMap fun t => [.int .i64 (t.1 : Int), .string (str t.2)]
theorem tkc_len (T : List Fm.Tk) : (tkc T).length = T.length * 2 := by
  unfold tkc
  induction T with
  | nil => rfl
  | cons t r ih => rw [List.flatMap_cons, List.length_append, ih]; simp; omega
theorem tkc_snoc (T : List Fm.Tk) (t : Fm.Tk) : tkc (T ++ [t]) = tkc T ++ [.int .i64 (t.1 : Int), .string (str t.2)] := by
  simp [tkc]
theorem sign_step {rest wd sg : List UInt8} {k : Nat} (h : wd = ((Fm.signs.take k).find? (Fm.pre rest)).getD []) (hs : Fm.signs[k]? = some sg) :
    (wd == [] && Fm.pre rest sg) = true → sg = ((Fm.signs.take (k + 1)).find? (Fm.pre rest)).getD [] := fun h1 => by
  simp only [Bool.and_eq_true, beq_iff_eq] at h1
  rw [Fm.find_take_none hs]
  cases hf : (Fm.signs.take k).find? (Fm.pre rest) with
  | none => simp [h1.2]
  | some x => rw [hf] at h; exact absurd (h.symm.trans h1.1) (Fm.find_sign_ne hf)
theorem sign_stay {rest wd sg : List UInt8} {k : Nat} (h : wd = ((Fm.signs.take k).find? (Fm.pre rest)).getD []) (hs : Fm.signs[k]? = some sg) :
    (wd == [] && Fm.pre rest sg) = false → wd = ((Fm.signs.take (k + 1)).find? (Fm.pre rest)).getD [] := fun h1 => by
  rw [Fm.find_take_none hs]
  cases hf : (Fm.signs.take k).find? (Fm.pre rest) with
  | none =>
    rw [hf] at h
    have hw : wd = [] := h
    subst hw
    have : Fm.pre rest sg = false := by simpa using h1
    simp [this]
  | some x => rw [hf] at h; exact h
theorem tok_sign {rest wd : List UInt8} (hr : rest ≠ []) (h : wd = (Fm.signs.find? (Fm.pre rest)).getD []) (hw : wd ≠ []) : Fm.tok rest = some wd := by
  unfold Fm.tok
  rw [if_neg hr]
  cases hf : Fm.signs.find? (Fm.pre rest) with
  | none => rw [hf] at h; exact absurd h hw
  | some s => rw [hf] at h; subst h; rfl
theorem no_sign {rest wd : List UInt8} (h : wd = (Fm.signs.find? (Fm.pre rest)).getD []) (hw : wd = []) : Fm.signs.find? (Fm.pre rest) = none := by
  cases hf : Fm.signs.find? (Fm.pre rest) with
  | none => rfl
  | some s =>
    rw [hf, hw] at h
    exact absurd h.symm (Fm.find_sign_ne (k := 10) (by rw [List.take_of_length_le (by decide)]; exact hf))
structure TG where
  n : Nat
  i : Nat
  out : List Fm.Tk
  ad : Option Addr
  cap : Nat
def lim (wd rest : List UInt8) : Nat := if wd = [] then (Fm.word rest).length else 0

theorem Tokens_c (text : List UInt8) (hmax : text.length ≤ 65536) (T : List Fm.Tk) (E : Int) (hT : Fm.scanF text (text.length + 1) 0 = (T, E)) (w : World) :
    Calls Try.prog 48 [.string (str text)].toArray w fun e w' => ∃ x : Option Addr × Nat, e = .returned (.tuple #[.slice x.1 T.length x.2, .int .i64 E]) ∧ St w [] [rowc (.slice x.1 T.length x.2) T.length 86 2 (tkc T)] w' := by
  refine enter Try.func48 rfl Try.ntmps48 rfl (St.init _) ?_
  refine WC.seq ?_
  refine WC.region ?_
  refine WL.step ?_
  refine WL.assign rfl rfl ?_
  refine WL.step ?_
  refine WL.assign rfl rfl ?_
  refine WL.nil ?_
  refine WQ.then_normal ?_
  refine WC.seq ?_
  refine WC.region ?_
  refine WL.step ?_
  refine WL.buildSlice F.sl61 F.ez61 rfl rfl rfl rfl (by repeat (first | exact Built.nil | apply Built.one rfl rfl (by repeat constructor) | apply Built.agg rfl rfl (by repeat constructor))) rfl (fun b10 => ?_)
  refine WL.step ?_
  refine WL.assign rfl rfl ?_
  refine WL.nil ?_
  refine WQ.then_normal ?_
  refine WC.seq ?_
  refine WC.region ?_
  refine WL.step ?_
  refine WL.assign rfl rfl ?_
  refine WL.nil ?_
  refine WQ.then_normal ?_
  refine WC.seq ?_
  refine WC.region ?_
  refine WL.step ?_
  refine WL.assign rfl rfl ?_
  refine WL.nil ?_
  refine WQ.then_normal ?_
  refine WC.seq ?_
  refine WC.block ?_
  refine WC.chunks (fun w hS => (hS.rowNil 86 2)) ?_
  refine WC.loop (α := TG) (fun g => g.out ++ (Fm.scanF text g.n g.i).1 = T ∧ (Fm.scanF text g.n g.i).2 = E ∧ g.i ≤ text.length ∧ text.length - g.i < g.n ∧ g.out.length + g.n ≤ text.length + 1) (fun g => [(0, .string (str text)), (4, .slice (some ⟨b10, 0, none⟩) 10 10), (5, .slice g.ad g.out.length g.cap), (6, .int .i64 (g.i : Int))]) (fun g => [rowc (.slice g.ad g.out.length g.cap) g.out.length 86 2 (tkc g.out), pt b10 (Fm.signs.map (fun s => Value.string (str s))) 9]) (fun g => g.n) (⟨text.length + 1, 0, [], none, 0⟩) ?_ ?_ ?_ ?_
  · exact ⟨by rw [hT]; rfl, by rw [hT], Nat.zero_le _, by show text.length - 0 < text.length + 1; omega, by show 0 + (text.length + 1) ≤ _; omega⟩
  · exact ⟨rfl, rfl, rfl, rfl, trivial⟩
  · rfl
  rintro ⟨n, i, out, ad, cap⟩ ⟨h1, h2, hi, hn, hol0⟩
  dsimp only at h1 h2 hi hn hol0
  show WC _ _ _ _ _ _ _ [(0, .string (str text)), (4, .slice (some ⟨b10, 0, none⟩) 10 10), (5, .slice ad out.length cap), (6, .int .i64 (i : Int))] [rowc (.slice ad out.length cap) out.length 86 2 (tkc out), pt b10 (Fm.signs.map (fun s => Value.string (str s))) 9]
  obtain ⟨n, rfl⟩ : ∃ m, n = m + 1 := ⟨n - 1, by omega⟩
  rw [Fm.scanF] at h1 h2
  refine WC.seq ?_
  refine WC.seq ?_
  refine WC.region ?_
  refine WL.step ?_
  refine WL.move rfl rfl ?_
  refine WL.step ?_
  refine WL.move rfl rfl ?_
  refine WL.step ?_
  refine WL.lenS F.und9 rfl rfl ?_
  refine WL.step ?_
  refine WL.ltI rfl rfl rfl ?_
  refine WL.nil ?_
  refine WQ.then_normal ?_
  refine WC.cond rfl (fun h14 => ?_) (fun h14 => ?_)
  · skip
    have hlt : i < text.length := by simp at h14; omega
    rw [if_neg (by omega)] at h1 h2
    obtain ⟨c, hc⟩ : ∃ c, text[i]? = some c := ⟨_, List.getElem?_eq_getElem hlt⟩
    refine WC.skip ?_
    refine WQ.then_normal ?_
    refine WC.block ?_
    refine WC.seq ?_
    refine WC.seq ?_
    refine WC.region ?_
    refine WL.step ?_
    refine WL.move rfl rfl ?_
    refine WL.step ?_
    refine WL.move rfl rfl ?_
    refine WL.step ?_
    refine WL.indexS (i := i) F.und9 rfl rfl rfl hc ?_
    refine WL.step ?_
    refine WL.eqI rfl rfl rfl ?_
    refine WL.nil ?_
    refine WQ.then_normal ?_
    refine WC.cond rfl (fun h18 => ?_) (fun h18 => ?_)
    · skip
      have hc32 : text[i]? = some 32 := by rw [hc]; congr 1; exact u8_eq.2 (by simpa using h18)
      rw [if_pos hc32] at h1 h2
      refine WC.seq ?_
      refine WC.region ?_
      refine WL.step ?_
      refine WL.move rfl rfl ?_
      refine WL.step ?_
      refine WL.add rfl rfl rfl ⟨by omega, by omega⟩ ?_
      refine WL.step ?_
      refine WL.assign rfl rfl ?_
      refine WL.nil ?_
      refine WQ.then_normal ?_
      refine WC.exit ?_
      refine WQ.then_exit ?_
      refine WQ.block_exit ?_
      refine WQ.back (⟨n, i + 1, out, ad, cap⟩) ?_ ?_ ?_ ?_
      · exact ⟨h1, h2, by show i + 1 ≤ _; omega, by show text.length - (i + 1) < n; omega, by show out.length + n ≤ _; omega⟩
      · exact Nat.lt_succ_self n
      · exact ⟨rfl, rfl, rfl, rfl, trivial⟩
      · rfl
    · skip
      have hc32 : ¬ text[i]? = some 32 := by rw [hc]; intro h0; injection h0 with h0; rw [h0] at h18; exact absurd h18 (by decide)
      rw [if_neg hc32] at h1 h2
      have hrne : text.drop i ≠ [] := by intro h0; have h9 := congrArg List.length h0; simp at h9; omega
      refine WC.skip ?_
      refine WQ.then_normal ?_
      refine WC.seq ?_
      refine WC.region ?_
      refine WL.step ?_
      refine WL.assign rfl rfl ?_
      refine WL.nil ?_
      refine WQ.then_normal ?_
      refine WC.seq ?_
      refine WC.seq ?_
      refine WC.region ?_
      refine WL.step ?_
      refine WL.assign rfl rfl ?_
      refine WL.nil ?_
      refine WQ.then_normal ?_
      refine WC.block ?_
      refine WC.loop (α := Nat × List UInt8) (fun g => g.1 ≤ 10 ∧ g.2 = ((Fm.signs.take g.1).find? (Fm.pre (text.drop i))).getD []) (fun g => [(0, .string (str text)), (4, .slice (some ⟨b10, 0, none⟩) 10 10), (5, .slice ad out.length cap), (6, .int .i64 (i : Int)), (7, .string (str g.2)), (8, .int .i64 (g.1 : Int))]) (fun g => [rowc (.slice ad out.length cap) out.length 86 2 (tkc out), pt b10 (Fm.signs.map (fun s => Value.string (str s))) 9]) (fun g => 10 - g.1) ((0, [])) ?_ ?_ ?_ ?_
      · exact ⟨by omega, rfl⟩
      · exact ⟨rfl, rfl, rfl, rfl, rfl, rfl, trivial⟩
      · rfl
      rintro ⟨k, wd⟩ ⟨hk, hwd⟩
      dsimp only at hk hwd
      show WC _ _ _ _ _ _ _ [(0, .string (str text)), (4, .slice (some ⟨b10, 0, none⟩) 10 10), (5, .slice ad out.length cap), (6, .int .i64 (i : Int)), (7, .string (str wd)), (8, .int .i64 (k : Int))] [rowc (.slice ad out.length cap) out.length 86 2 (tkc out), pt b10 (Fm.signs.map (fun s => Value.string (str s))) 9]
      refine WC.seq ?_
      refine WC.seq ?_
      refine WC.region ?_
      refine WL.step ?_
      refine WL.move rfl rfl ?_
      refine WL.step ?_
      refine WL.move rfl rfl ?_
      refine WL.step ?_
      refine WL.lenSl F.und61 rfl rfl ?_
      refine WL.step ?_
      refine WL.ltI rfl rfl rfl ?_
      refine WL.nil ?_
      refine WQ.then_normal ?_
      refine WC.cond rfl (fun h24 => ?_) (fun h24 => ?_)
      · skip
        have hk10 : k < 10 := by simp at h24; omega
        obtain ⟨sg, hsg⟩ : ∃ s, Fm.signs[k]? = some s := ⟨_, List.getElem?_eq_getElem (show k < Fm.signs.length from hk10)⟩
        have hsl : sg.length ≤ 3 := (by decide : ∀ s ∈ Fm.signs, s.length ≤ 3) sg (List.mem_of_getElem? hsg)
        refine WC.skip ?_
        refine WQ.then_normal ?_
        refine WC.seq ?_
        refine WC.block ?_
        refine WC.seq ?_
        refine WC.cutP [(57, .bool (wd == [] && Fm.pre (text.drop i) sg)), (0, .string (str text)), (4, .slice (some ⟨b10, 0, none⟩) 10 10), (5, .slice ad out.length cap), (6, .int .i64 (i : Int)), (7, .string (str wd)), (8, .int .i64 (k : Int))] (fun c a d v w h => by cases d <;> exact h) (fun Q' hP hQ => ?_) ?_
        · skip
          have hdl : (text.drop i).length = text.length - i := by simp
          refine WC.drawsL (by kernel_rfl) (FactsOk.cons (ds := []) (LoadOk.by (Y := fun w => w.cell? ⟨b10, 0 + k * 1, none⟩ = some (.string (str sg))) (fun w hS => by rw [Nat.zero_add, Nat.mul_one]; exact hS.cell (cs := (Fm.signs.map (fun s => Value.string (str s)))) (by repeat (first | exact List.Mem.head _ | apply List.Mem.tail)) (by rw [List.getElem?_map, hsg]; rfl))) (FactsOk.nil)) ?_
          refine WD.take (i := 0) rfl rfl rfl rfl (by kernel_rfl) (by kernel_rfl) (by kernel_rfl) (fun _ _ _ h => hP _ _ _ _ _ h) (by kernel_rfl) need_none (Yl.move rfl) ?_
          refine WD.take (i := 1) rfl rfl rfl rfl (by kernel_rfl) (by kernel_rfl) (by kernel_rfl) (fun _ _ _ h => hP _ _ _ _ _ h) (by kernel_rfl) need_none (Yl.eqS rfl rfl) ?_
          refine WD.take (i := 2) rfl rfl rfl rfl (by kernel_rfl) (by kernel_rfl) (by kernel_rfl) (fun _ _ _ h => hP _ _ _ _ _ h) (by kernel_rfl) need_none (Yl.move rfl) ?_
          refine fun hcl => WA.splitB (i := 29) rfl (fun g29 => ?_) (fun g29 => ?_)
          · skip
            refine (show WD _ _ _ _ _ _ _ _ _ _ _ _ from ?_) hcl
            refine WD.takeG (i := 3) rfl rfl rfl rfl rfl rfl (by kernel_rfl) (by kernel_rfl) (by kernel_rfl) (fun _ _ _ h => hP _ _ _ _ _ h) (by kernel_rfl) need_none (Yl.move rfl) ?_
            refine WD.takeG (i := 4) rfl rfl rfl rfl rfl rfl (by kernel_rfl) (by kernel_rfl) (by kernel_rfl) (fun _ _ _ h => hP _ _ _ _ _ h) (by kernel_rfl) need_none (Yl.move rfl) ?_
            refine WD.takeG (i := 5) rfl rfl rfl rfl rfl rfl (by kernel_rfl) (by kernel_rfl) (by kernel_rfl) (fun _ _ _ h => hP _ _ _ _ _ h) (by kernel_rfl) need_none (Yl.move rfl) ?_
            refine WD.takeG (i := 6) rfl rfl rfl rfl rfl rfl (by kernel_rfl) (by kernel_rfl) (by kernel_rfl) (fun _ _ _ h => hP _ _ _ _ _ h) (by kernel_rfl) need_none (Yl.indexAddr F.sl61 rfl rfl (by omega)) ?_
            refine WD.takeG (i := 7) rfl rfl rfl rfl rfl rfl (by kernel_rfl) (by kernel_rfl) (by kernel_rfl) (fun _ _ _ h => hP _ _ _ _ _ h) (by kernel_rfl) (need_at 0 31 rfl (by kernel_rfl)) (Yl.load1 F.one9 rfl) ?_
            refine WD.takeG (i := 8) rfl rfl rfl rfl rfl rfl (by kernel_rfl) (by kernel_rfl) (by kernel_rfl) (fun _ _ _ h => hP _ _ _ _ _ h) (by kernel_rfl) need_none (Yl.lenS F.und9 rfl) ?_
            refine WD.takeG (i := 9) rfl rfl rfl rfl rfl rfl (by kernel_rfl) (by kernel_rfl) (by kernel_rfl) (fun _ _ _ h => hP _ _ _ _ _ h) (by kernel_rfl) need_none (Yl.add rfl rfl ⟨by omega, by omega⟩) ?_
            refine WD.takeG (i := 10) rfl rfl rfl rfl rfl rfl (by kernel_rfl) (by kernel_rfl) (by kernel_rfl) (fun _ _ _ h => hP _ _ _ _ _ h) (by kernel_rfl) need_none (Yl.move rfl) ?_
            refine WD.takeG (i := 11) rfl rfl rfl rfl rfl rfl (by kernel_rfl) (by kernel_rfl) (by kernel_rfl) (fun _ _ _ h => hP _ _ _ _ _ h) (by kernel_rfl) need_none (Yl.lenS F.und9 rfl) ?_
            refine WD.takeG (i := 12) rfl rfl rfl rfl rfl rfl (by kernel_rfl) (by kernel_rfl) (by kernel_rfl) (fun _ _ _ h => hP _ _ _ _ _ h) (by kernel_rfl) need_none (Yl.leI rfl rfl) ?_
            refine WD.take (i := 13) rfl rfl rfl rfl (by kernel_rfl) (by kernel_rfl) (by kernel_rfl) (fun _ _ _ h => hP _ _ _ _ _ h) (by kernel_rfl) need_none (Yl.pickT rfl rfl) ?_
            refine WD.take (i := 14) rfl rfl rfl rfl (by kernel_rfl) (by kernel_rfl) (by kernel_rfl) (fun _ _ _ h => hP _ _ _ _ _ h) (by kernel_rfl) need_none (Yl.move rfl) ?_
            refine fun hcl => WA.splitB (i := 41) rfl (fun g41 => ?_) (fun g41 => ?_)
            · skip
              refine (show WD _ _ _ _ _ _ _ _ _ _ _ _ from ?_) hcl
              have hle41 : i + sg.length ≤ text.length := by simp at g41; omega
              refine WD.takeG (i := 15) rfl rfl rfl rfl rfl rfl (by kernel_rfl) (by kernel_rfl) (by kernel_rfl) (fun _ _ _ h => hP _ _ _ _ _ h) (by kernel_rfl) need_none (Yl.move rfl) ?_
              refine WD.takeG (i := 16) rfl rfl rfl rfl rfl rfl (by kernel_rfl) (by kernel_rfl) (by kernel_rfl) (fun _ _ _ h => hP _ _ _ _ _ h) (by kernel_rfl) need_none (Yl.move rfl) ?_
              refine WD.takeG (i := 17) rfl rfl rfl rfl rfl rfl (by kernel_rfl) (by kernel_rfl) (by kernel_rfl) (fun _ _ _ h => hP _ _ _ _ _ h) (by kernel_rfl) need_none (Yl.move rfl) ?_
              refine WD.takeG (i := 18) rfl rfl rfl rfl rfl rfl (by kernel_rfl) (by kernel_rfl) (by kernel_rfl) (fun _ _ _ h => hP _ _ _ _ _ h) (by kernel_rfl) need_none (Yl.move rfl) ?_
              refine WD.takeG (i := 19) rfl rfl rfl rfl rfl rfl (by kernel_rfl) (by kernel_rfl) (by kernel_rfl) (fun _ _ _ h => hP _ _ _ _ _ h) (by kernel_rfl) need_none (Yl.move rfl) ?_
              refine WD.takeG (i := 20) rfl rfl rfl rfl rfl rfl (by kernel_rfl) (by kernel_rfl) (by kernel_rfl) (fun _ _ _ h => hP _ _ _ _ _ h) (by kernel_rfl) need_none (Yl.indexAddr F.sl61 rfl rfl (by omega)) ?_
              refine WD.takeG (i := 21) rfl rfl rfl rfl rfl rfl (by kernel_rfl) (by kernel_rfl) (by kernel_rfl) (fun _ _ _ h => hP _ _ _ _ _ h) (by kernel_rfl) (need_at 0 31 rfl (by kernel_rfl)) (Yl.load1 F.one9 rfl) ?_
              refine WD.takeG (i := 22) rfl rfl rfl rfl rfl rfl (by kernel_rfl) (by kernel_rfl) (by kernel_rfl) (fun _ _ _ h => hP _ _ _ _ _ h) (by kernel_rfl) need_none (Yl.lenS F.und9 rfl) ?_
              refine WD.takeG (i := 23) rfl rfl rfl rfl rfl rfl (by kernel_rfl) (by kernel_rfl) (by kernel_rfl) (fun _ _ _ h => hP _ _ _ _ _ h) (by kernel_rfl) need_none (Yl.add rfl rfl ⟨by omega, by omega⟩) ?_
              refine WD.takeG (i := 24) rfl rfl rfl rfl rfl rfl (by kernel_rfl) (by kernel_rfl) (by kernel_rfl) (fun _ _ _ h => hP _ _ _ _ _ h) (by kernel_rfl) need_none (Yl.sliceFT (m := i) (n := i + sg.length) F.und9 rfl rfl rfl (by omega) hle41) ?_
              refine WD.takeG (i := 25) rfl rfl rfl rfl rfl rfl (by kernel_rfl) (by kernel_rfl) (by kernel_rfl) (fun _ _ _ h => hP _ _ _ _ _ h) (by kernel_rfl) need_none (Yl.move rfl) ?_
              refine WD.takeG (i := 26) rfl rfl rfl rfl rfl rfl (by kernel_rfl) (by kernel_rfl) (by kernel_rfl) (fun _ _ _ h => hP _ _ _ _ _ h) (by kernel_rfl) need_none (Yl.move rfl) ?_
              refine WD.takeG (i := 27) rfl rfl rfl rfl rfl rfl (by kernel_rfl) (by kernel_rfl) (by kernel_rfl) (fun _ _ _ h => hP _ _ _ _ _ h) (by kernel_rfl) need_none (Yl.indexAddr F.sl61 rfl rfl (by omega)) ?_
              refine WD.takeG (i := 28) rfl rfl rfl rfl rfl rfl (by kernel_rfl) (by kernel_rfl) (by kernel_rfl) (fun _ _ _ h => hP _ _ _ _ _ h) (by kernel_rfl) (need_at 0 31 rfl (by kernel_rfl)) (Yl.load1 F.one9 rfl) ?_
              refine WD.takeG (i := 29) rfl rfl rfl rfl rfl rfl (by kernel_rfl) (by kernel_rfl) (by kernel_rfl) (fun _ _ _ h => hP _ _ _ _ _ h) (by kernel_rfl) need_none (Yl.eqS rfl rfl) ?_
              refine WD.take (i := 30) rfl rfl rfl rfl (by kernel_rfl) (by kernel_rfl) (by kernel_rfl) (fun _ _ _ h => hP _ _ _ _ _ h) (by kernel_rfl) need_none (Yl.pickT rfl rfl) ?_
              refine WD.done (by kernel_rfl) ?_
              refine WQ.byCut hQ (subF_bool ?_ ⟨rfl, rfl, rfl, rfl, rfl, rfl, trivial⟩ rfl)
              first | (rw [g29]; rfl) | (rw [g29, Bool.true_and, Fm.pre, hdl]; have h9 : decide (sg.length ≤ text.length - i) = false := (by simp at g41 ⊢; omega); rw [h9]; rfl) | (rw [g29, Bool.true_and, Fm.pre, hdl]; have h9 : decide (sg.length ≤ text.length - i) = true := (by simp at g41 ⊢; omega); rw [h9, Bool.true_and, show i + sg.length - i = sg.length by omega])
            · skip
              refine (show WD _ _ _ _ _ _ _ _ _ _ _ _ from ?_) hcl
              refine WD.skip (i := 15) rfl rfl rfl rfl rfl rfl rfl (by kernel_rfl) (by kernel_rfl) (by kernel_rfl) (fun _ _ _ h => hP _ _ _ _ _ h) (by kernel_rfl) ?_
              refine WD.skip (i := 16) rfl rfl rfl rfl rfl rfl rfl (by kernel_rfl) (by kernel_rfl) (by kernel_rfl) (fun _ _ _ h => hP _ _ _ _ _ h) (by kernel_rfl) ?_
              refine WD.skip (i := 17) rfl rfl rfl rfl rfl rfl rfl (by kernel_rfl) (by kernel_rfl) (by kernel_rfl) (fun _ _ _ h => hP _ _ _ _ _ h) (by kernel_rfl) ?_
              refine WD.skip (i := 18) rfl rfl rfl rfl rfl rfl rfl (by kernel_rfl) (by kernel_rfl) (by kernel_rfl) (fun _ _ _ h => hP _ _ _ _ _ h) (by kernel_rfl) ?_
              refine WD.skip (i := 19) rfl rfl rfl rfl rfl rfl rfl (by kernel_rfl) (by kernel_rfl) (by kernel_rfl) (fun _ _ _ h => hP _ _ _ _ _ h) (by kernel_rfl) ?_
              refine WD.skip (i := 20) rfl rfl rfl rfl rfl rfl rfl (by kernel_rfl) (by kernel_rfl) (by kernel_rfl) (fun _ _ _ h => hP _ _ _ _ _ h) (by kernel_rfl) ?_
              refine WD.skip (i := 21) rfl rfl rfl rfl rfl rfl rfl (by kernel_rfl) (by kernel_rfl) (by kernel_rfl) (fun _ _ _ h => hP _ _ _ _ _ h) (by kernel_rfl) ?_
              refine WD.skip (i := 22) rfl rfl rfl rfl rfl rfl rfl (by kernel_rfl) (by kernel_rfl) (by kernel_rfl) (fun _ _ _ h => hP _ _ _ _ _ h) (by kernel_rfl) ?_
              refine WD.skip (i := 23) rfl rfl rfl rfl rfl rfl rfl (by kernel_rfl) (by kernel_rfl) (by kernel_rfl) (fun _ _ _ h => hP _ _ _ _ _ h) (by kernel_rfl) ?_
              refine WD.skip (i := 24) rfl rfl rfl rfl rfl rfl rfl (by kernel_rfl) (by kernel_rfl) (by kernel_rfl) (fun _ _ _ h => hP _ _ _ _ _ h) (by kernel_rfl) ?_
              refine WD.skip (i := 25) rfl rfl rfl rfl rfl rfl rfl (by kernel_rfl) (by kernel_rfl) (by kernel_rfl) (fun _ _ _ h => hP _ _ _ _ _ h) (by kernel_rfl) ?_
              refine WD.skip (i := 26) rfl rfl rfl rfl rfl rfl rfl (by kernel_rfl) (by kernel_rfl) (by kernel_rfl) (fun _ _ _ h => hP _ _ _ _ _ h) (by kernel_rfl) ?_
              refine WD.skip (i := 27) rfl rfl rfl rfl rfl rfl rfl (by kernel_rfl) (by kernel_rfl) (by kernel_rfl) (fun _ _ _ h => hP _ _ _ _ _ h) (by kernel_rfl) ?_
              refine WD.skip (i := 28) rfl rfl rfl rfl rfl rfl rfl (by kernel_rfl) (by kernel_rfl) (by kernel_rfl) (fun _ _ _ h => hP _ _ _ _ _ h) (by kernel_rfl) ?_
              refine WD.skip (i := 29) rfl rfl rfl rfl rfl rfl rfl (by kernel_rfl) (by kernel_rfl) (by kernel_rfl) (fun _ _ _ h => hP _ _ _ _ _ h) (by kernel_rfl) ?_
              refine WD.take (i := 30) rfl rfl rfl rfl (by kernel_rfl) (by kernel_rfl) (by kernel_rfl) (fun _ _ _ h => hP _ _ _ _ _ h) (by kernel_rfl) need_none (Yl.pickF rfl rfl) ?_
              refine WD.done (by kernel_rfl) ?_
              refine WQ.byCut hQ (subF_bool ?_ ⟨rfl, rfl, rfl, rfl, rfl, rfl, trivial⟩ rfl)
              first | (rw [g29]; rfl) | (rw [g29, Bool.true_and, Fm.pre, hdl]; have h9 : decide (sg.length ≤ text.length - i) = false := (by simp at g41 ⊢; omega); rw [h9]; rfl) | (rw [g29, Bool.true_and, Fm.pre, hdl]; have h9 : decide (sg.length ≤ text.length - i) = true := (by simp at g41 ⊢; omega); rw [h9, Bool.true_and, show i + sg.length - i = sg.length by omega])
          · skip
            refine (show WD _ _ _ _ _ _ _ _ _ _ _ _ from ?_) hcl
            refine WD.skip (i := 3) rfl rfl rfl rfl rfl rfl rfl (by kernel_rfl) (by kernel_rfl) (by kernel_rfl) (fun _ _ _ h => hP _ _ _ _ _ h) (by kernel_rfl) ?_
            refine WD.skip (i := 4) rfl rfl rfl rfl rfl rfl rfl (by kernel_rfl) (by kernel_rfl) (by kernel_rfl) (fun _ _ _ h => hP _ _ _ _ _ h) (by kernel_rfl) ?_
            refine WD.skip (i := 5) rfl rfl rfl rfl rfl rfl rfl (by kernel_rfl) (by kernel_rfl) (by kernel_rfl) (fun _ _ _ h => hP _ _ _ _ _ h) (by kernel_rfl) ?_
            refine WD.skip (i := 6) rfl rfl rfl rfl rfl rfl rfl (by kernel_rfl) (by kernel_rfl) (by kernel_rfl) (fun _ _ _ h => hP _ _ _ _ _ h) (by kernel_rfl) ?_
            refine WD.skip (i := 7) rfl rfl rfl rfl rfl rfl rfl (by kernel_rfl) (by kernel_rfl) (by kernel_rfl) (fun _ _ _ h => hP _ _ _ _ _ h) (by kernel_rfl) ?_
            refine WD.skip (i := 8) rfl rfl rfl rfl rfl rfl rfl (by kernel_rfl) (by kernel_rfl) (by kernel_rfl) (fun _ _ _ h => hP _ _ _ _ _ h) (by kernel_rfl) ?_
            refine WD.skip (i := 9) rfl rfl rfl rfl rfl rfl rfl (by kernel_rfl) (by kernel_rfl) (by kernel_rfl) (fun _ _ _ h => hP _ _ _ _ _ h) (by kernel_rfl) ?_
            refine WD.skip (i := 10) rfl rfl rfl rfl rfl rfl rfl (by kernel_rfl) (by kernel_rfl) (by kernel_rfl) (fun _ _ _ h => hP _ _ _ _ _ h) (by kernel_rfl) ?_
            refine WD.skip (i := 11) rfl rfl rfl rfl rfl rfl rfl (by kernel_rfl) (by kernel_rfl) (by kernel_rfl) (fun _ _ _ h => hP _ _ _ _ _ h) (by kernel_rfl) ?_
            refine WD.skip (i := 12) rfl rfl rfl rfl rfl rfl rfl (by kernel_rfl) (by kernel_rfl) (by kernel_rfl) (fun _ _ _ h => hP _ _ _ _ _ h) (by kernel_rfl) ?_
            refine WD.take (i := 13) rfl rfl rfl rfl (by kernel_rfl) (by kernel_rfl) (by kernel_rfl) (fun _ _ _ h => hP _ _ _ _ _ h) (by kernel_rfl) need_none (Yl.pickF rfl rfl) ?_
            refine WD.take (i := 14) rfl rfl rfl rfl (by kernel_rfl) (by kernel_rfl) (by kernel_rfl) (fun _ _ _ h => hP _ _ _ _ _ h) (by kernel_rfl) need_none (Yl.move rfl) ?_
            refine WD.skip (i := 15) rfl rfl rfl rfl rfl rfl rfl (by kernel_rfl) (by kernel_rfl) (by kernel_rfl) (fun _ _ _ h => hP _ _ _ _ _ h) (by kernel_rfl) ?_
            refine WD.skip (i := 16) rfl rfl rfl rfl rfl rfl rfl (by kernel_rfl) (by kernel_rfl) (by kernel_rfl) (fun _ _ _ h => hP _ _ _ _ _ h) (by kernel_rfl) ?_
            refine WD.skip (i := 17) rfl rfl rfl rfl rfl rfl rfl (by kernel_rfl) (by kernel_rfl) (by kernel_rfl) (fun _ _ _ h => hP _ _ _ _ _ h) (by kernel_rfl) ?_
            refine WD.skip (i := 18) rfl rfl rfl rfl rfl rfl rfl (by kernel_rfl) (by kernel_rfl) (by kernel_rfl) (fun _ _ _ h => hP _ _ _ _ _ h) (by kernel_rfl) ?_
            refine WD.skip (i := 19) rfl rfl rfl rfl rfl rfl rfl (by kernel_rfl) (by kernel_rfl) (by kernel_rfl) (fun _ _ _ h => hP _ _ _ _ _ h) (by kernel_rfl) ?_
            refine WD.skip (i := 20) rfl rfl rfl rfl rfl rfl rfl (by kernel_rfl) (by kernel_rfl) (by kernel_rfl) (fun _ _ _ h => hP _ _ _ _ _ h) (by kernel_rfl) ?_
            refine WD.skip (i := 21) rfl rfl rfl rfl rfl rfl rfl (by kernel_rfl) (by kernel_rfl) (by kernel_rfl) (fun _ _ _ h => hP _ _ _ _ _ h) (by kernel_rfl) ?_
            refine WD.skip (i := 22) rfl rfl rfl rfl rfl rfl rfl (by kernel_rfl) (by kernel_rfl) (by kernel_rfl) (fun _ _ _ h => hP _ _ _ _ _ h) (by kernel_rfl) ?_
            refine WD.skip (i := 23) rfl rfl rfl rfl rfl rfl rfl (by kernel_rfl) (by kernel_rfl) (by kernel_rfl) (fun _ _ _ h => hP _ _ _ _ _ h) (by kernel_rfl) ?_
            refine WD.skip (i := 24) rfl rfl rfl rfl rfl rfl rfl (by kernel_rfl) (by kernel_rfl) (by kernel_rfl) (fun _ _ _ h => hP _ _ _ _ _ h) (by kernel_rfl) ?_
            refine WD.skip (i := 25) rfl rfl rfl rfl rfl rfl rfl (by kernel_rfl) (by kernel_rfl) (by kernel_rfl) (fun _ _ _ h => hP _ _ _ _ _ h) (by kernel_rfl) ?_
            refine WD.skip (i := 26) rfl rfl rfl rfl rfl rfl rfl (by kernel_rfl) (by kernel_rfl) (by kernel_rfl) (fun _ _ _ h => hP _ _ _ _ _ h) (by kernel_rfl) ?_
            refine WD.skip (i := 27) rfl rfl rfl rfl rfl rfl rfl (by kernel_rfl) (by kernel_rfl) (by kernel_rfl) (fun _ _ _ h => hP _ _ _ _ _ h) (by kernel_rfl) ?_
            refine WD.skip (i := 28) rfl rfl rfl rfl rfl rfl rfl (by kernel_rfl) (by kernel_rfl) (by kernel_rfl) (fun _ _ _ h => hP _ _ _ _ _ h) (by kernel_rfl) ?_
            refine WD.skip (i := 29) rfl rfl rfl rfl rfl rfl rfl (by kernel_rfl) (by kernel_rfl) (by kernel_rfl) (fun _ _ _ h => hP _ _ _ _ _ h) (by kernel_rfl) ?_
            refine WD.take (i := 30) rfl rfl rfl rfl (by kernel_rfl) (by kernel_rfl) (by kernel_rfl) (fun _ _ _ h => hP _ _ _ _ _ h) (by kernel_rfl) need_none (Yl.pickF rfl rfl) ?_
            refine WD.done (by kernel_rfl) ?_
            refine WQ.byCut hQ (subF_bool ?_ ⟨rfl, rfl, rfl, rfl, rfl, rfl, trivial⟩ rfl)
            first | (rw [g29]; rfl) | (rw [g29, Bool.true_and, Fm.pre, hdl]; have h9 : decide (sg.length ≤ text.length - i) = false := (by simp at g41 ⊢; omega); rw [h9]; rfl) | (rw [g29, Bool.true_and, Fm.pre, hdl]; have h9 : decide (sg.length ≤ text.length - i) = true := (by simp at g41 ⊢; omega); rw [h9, Bool.true_and, show i + sg.length - i = sg.length by omega])
        refine WQ.then_normal ?_
        refine WC.cond rfl (fun h57 => ?_) (fun h57 => ?_)
        · skip
          refine WC.region ?_
          refine WL.step ?_
          refine WL.move rfl rfl ?_
          refine WL.step ?_
          refine WL.move rfl rfl ?_
          refine WL.step ?_
          refine WL.indexAddr (i := k) F.sl61 rfl rfl rfl hk10 ?_
          refine WL.step ?_
          refine WL.load1 F.one9 rfl rfl (v := .string (str sg)) (fun w hS => by rw [Nat.zero_add, Nat.mul_one]; exact hS.cell (cs := (Fm.signs.map (fun s => Value.string (str s)))) (by repeat (first | exact List.Mem.head _ | apply List.Mem.tail)) (by rw [List.getElem?_map, hsg]; rfl)) ?_
          refine WL.step ?_
          refine WL.assign rfl rfl ?_
          refine WL.nil ?_
          refine WQ.block_normal ?_
          refine WQ.then_normal ?_
          refine WC.region ?_
          refine WL.step ?_
          refine WL.move rfl rfl ?_
          refine WL.step ?_
          refine WL.add rfl rfl rfl ⟨by omega, by omega⟩ ?_
          refine WL.step ?_
          refine WL.assign rfl rfl ?_
          refine WL.nil ?_
          refine WQ.back ((k + 1, sg)) ?_ ?_ ?_ ?_
          · exact ⟨by show k + 1 ≤ 10; omega, sign_step hwd hsg h57⟩
          · (show 10 - (k + 1) < 10 - k; omega)
          · exact ⟨rfl, rfl, rfl, rfl, rfl, rfl, trivial⟩
          · rfl
        · skip
          refine WC.skip ?_
          refine WQ.block_normal ?_
          refine WQ.then_normal ?_
          refine WC.region ?_
          refine WL.step ?_
          refine WL.move rfl rfl ?_
          refine WL.step ?_
          refine WL.add rfl rfl rfl ⟨by omega, by omega⟩ ?_
          refine WL.step ?_
          refine WL.assign rfl rfl ?_
          refine WL.nil ?_
          refine WQ.back ((k + 1, wd)) ?_ ?_ ?_ ?_
          · exact ⟨by show k + 1 ≤ 10; omega, sign_stay hwd hsg h57⟩
          · (show 10 - (k + 1) < 10 - k; omega)
          · exact ⟨rfl, rfl, rfl, rfl, rfl, rfl, trivial⟩
          · rfl
      · skip
        have hk10 : k = 10 := by simp at h24; omega
        subst hk10
        rw [show Fm.signs.take 10 = Fm.signs from rfl] at hwd
        refine WC.exit ?_
        refine WQ.then_exit ?_
        refine WQ.then_exit ?_
        refine WQ.block_exit ?_
        refine WQ.then_normal ?_
        refine WC.seq ?_
        refine WC.region ?_
        refine WL.step ?_
        refine WL.move rfl rfl ?_
        refine WL.step ?_
        refine WL.assign rfl rfl ?_
        refine WL.nil ?_
        refine WQ.then_normal ?_
        refine WC.seq ?_
        refine WC.block ?_
        refine WC.loop (α := Nat) (fun j => j ≤ lim wd (text.drop i)) (fun j => [(0, .string (str text)), (4, .slice (some ⟨b10, 0, none⟩) 10 10), (5, .slice ad out.length cap), (6, .int .i64 (i : Int)), (7, .string (str wd)), (9, .int .i64 ((i + j : Nat) : Int))]) (fun _ => [rowc (.slice ad out.length cap) out.length 86 2 (tkc out), pt b10 (Fm.signs.map (fun s => Value.string (str s))) 9]) (fun j => lim wd (text.drop i) - j) (0) ?_ ?_ ?_ ?_
        · exact Nat.zero_le _
        · exact ⟨rfl, rfl, rfl, rfl, rfl, rfl, trivial⟩
        · rfl
        rintro j hj
        have hwl : (Fm.word (text.drop i)).length ≤ text.length - i := by have := Fm.takeWhile_le Fm.inWordB (text.drop i); rw [List.length_drop] at this; exact this
        have hll : lim wd (text.drop i) ≤ text.length - i := by unfold lim; split <;> omega
        refine WC.seq ?_
        refine WC.seq ?_
        refine WC.cutF [(76, .bool (decide (j < lim wd (text.drop i)))), (0, .string (str text)), (4, .slice (some ⟨b10, 0, none⟩) 10 10), (5, .slice ad out.length cap), (6, .int .i64 (i : Int)), (7, .string (str wd)), (9, .int .i64 ((i + j : Nat) : Int))] (fun Q' hQ => ?_) ?_
        · skip
          refine WC.region ?_
          refine WL.step ?_
          refine WL.move rfl rfl ?_
          refine WL.step ?_
          refine WL.eqS rfl rfl rfl ?_
          refine WL.step ?_
          refine WL.move rfl rfl ?_
          refine WA.splitB (i := 65) rfl (fun h65 => ?_) (fun h65 => ?_)
          · skip
            have hlw : lim wd (text.drop i) = (Fm.word (text.drop i)).length := by unfold lim; rw [if_pos (by simpa using h65)]
            refine WL.step (WL.guardT rfl rfl rfl ?_)
            refine WL.move rfl rfl ?_
            refine WL.step (WL.guardT rfl rfl rfl ?_)
            refine WL.move rfl rfl ?_
            refine WL.step (WL.guardT rfl rfl rfl ?_)
            refine WL.lenS F.und9 rfl rfl ?_
            refine WL.step (WL.guardT rfl rfl rfl ?_)
            refine WL.ltI rfl rfl rfl ?_
            refine WL.step ?_
            refine WL.pickT rfl rfl rfl ?_
            refine WL.step ?_
            refine WL.move rfl rfl ?_
            refine WA.splitB (i := 71) rfl (fun h71 => ?_) (fun h71 => ?_)
            · skip
              have hltj : i + j < text.length := by simp at h71; omega
              obtain ⟨cj, hcj⟩ : ∃ c, (text.drop i)[j]? = some c := ⟨_, List.getElem?_eq_getElem (by rw [List.length_drop]; omega)⟩
              have hcj2 : text[i + j]? = some cj := by rw [List.getElem?_drop] at hcj; exact hcj
              refine WL.step (WL.guardT rfl rfl rfl ?_)
              refine WL.move rfl rfl ?_
              refine WL.step (WL.guardT rfl rfl rfl ?_)
              refine WL.move rfl rfl ?_
              refine WL.step (WL.guardT rfl rfl rfl ?_)
              refine WL.indexS (i := i + j) F.und9 rfl rfl rfl hcj2 ?_
              refine WL.step (WL.guardT rfl rfl rfl ?_)
              refine WL.callV F.fun89 rfl rfl (fun w _ => refInWord_c cj w) ?_
              refine WL.step ?_
              refine WL.pickT rfl rfl rfl ?_
              refine WL.nil ?_
              refine WQ.byCut hQ (subF_bool ?_ ⟨rfl, rfl, rfl, rfl, rfl, rfl, trivial⟩ rfl)
              first | (have h9 : lim wd (text.drop i) = 0 := (by unfold lim; rw [if_neg (by simpa using h65)]); rw [h9]; rfl) | (rw [hlw]; exact word_in (by omega) hcj) | (rw [hlw]; have h9 : ¬ j < (Fm.word (text.drop i)).length := (by simp at h71; omega); simp [h9])
            · skip
              refine WL.step (WL.guardF rfl rfl rfl rfl rfl rfl ?_)
              refine WL.step (WL.guardF rfl rfl rfl rfl rfl rfl ?_)
              refine WL.step (WL.guardF rfl rfl rfl rfl rfl rfl ?_)
              refine WL.step (WL.guardF rfl rfl rfl rfl rfl rfl ?_)
              refine WL.step ?_
              refine WL.pickF rfl rfl rfl ?_
              refine WL.nil ?_
              refine WQ.byCut hQ (subF_bool ?_ ⟨rfl, rfl, rfl, rfl, rfl, rfl, trivial⟩ rfl)
              first | (have h9 : lim wd (text.drop i) = 0 := (by unfold lim; rw [if_neg (by simpa using h65)]); rw [h9]; rfl) | (rw [hlw]; exact word_in (by omega) hcj) | (rw [hlw]; have h9 : ¬ j < (Fm.word (text.drop i)).length := (by simp at h71; omega); simp [h9])
          · skip
            refine WL.step (WL.guardF rfl rfl rfl rfl rfl rfl ?_)
            refine WL.step (WL.guardF rfl rfl rfl rfl rfl rfl ?_)
            refine WL.step (WL.guardF rfl rfl rfl rfl rfl rfl ?_)
            refine WL.step (WL.guardF rfl rfl rfl rfl rfl rfl ?_)
            refine WL.step ?_
            refine WL.pickF rfl rfl rfl ?_
            refine WL.step ?_
            refine WL.move rfl rfl ?_
            refine WL.step (WL.guardF rfl rfl rfl rfl rfl rfl ?_)
            refine WL.step (WL.guardF rfl rfl rfl rfl rfl rfl ?_)
            refine WL.step (WL.guardF rfl rfl rfl rfl rfl rfl ?_)
            refine WL.step (WL.guardF rfl rfl rfl rfl rfl rfl ?_)
            refine WL.step ?_
            refine WL.pickF rfl rfl rfl ?_
            refine WL.nil ?_
            refine WQ.byCut hQ (subF_bool ?_ ⟨rfl, rfl, rfl, rfl, rfl, rfl, trivial⟩ rfl)
            first | (have h9 : lim wd (text.drop i) = 0 := (by unfold lim; rw [if_neg (by simpa using h65)]); rw [h9]; rfl) | (rw [hlw]; exact word_in (by omega) hcj) | (rw [hlw]; have h9 : ¬ j < (Fm.word (text.drop i)).length := (by simp at h71; omega); simp [h9])
        refine WQ.then_normal ?_
        refine WC.cond rfl (fun h76 => ?_) (fun h76 => ?_)
        · skip
          have hjl : j < lim wd (text.drop i) := by simpa using h76
          refine WC.skip ?_
          refine WQ.then_normal ?_
          refine WC.block ?_
          refine WC.region ?_
          refine WL.step ?_
          refine WL.move rfl rfl ?_
          refine WL.step ?_
          refine WL.add rfl rfl rfl ⟨by omega, by omega⟩ ?_
          refine WL.step ?_
          refine WL.assign rfl rfl ?_
          refine WL.nil ?_
          refine WQ.block_normal ?_
          refine WQ.back (j + 1) ?_ ?_ ?_ ?_
          · exact by omega
          · omega
          · exact ⟨rfl, rfl, rfl, rfl, rfl, rfl, trivial⟩
          · rfl
        · skip
          have hje : j = lim wd (text.drop i) := by simp at h76; omega
          refine WC.exit ?_
          refine WQ.then_exit ?_
          refine WQ.then_exit ?_
          refine WQ.block_exit ?_
          refine WQ.then_normal ?_
          refine WC.seq ?_
          refine WC.seq ?_
          refine WC.region ?_
          refine WL.step ?_
          refine WL.move rfl rfl ?_
          refine WL.step ?_
          refine WL.eqS rfl rfl rfl ?_
          refine WL.nil ?_
          refine WQ.then_normal ?_
          refine WC.cond rfl (fun h80 => ?_) (fun h80 => ?_)
          · skip
            have hw0 : wd = [] := by simpa using h80
            have hfn := no_sign hwd hw0
            have hje2 : j = (Fm.word (text.drop i)).length := by rw [hje]; unfold lim; rw [if_pos hw0]
            refine WC.seq ?_
            refine WC.region ?_
            refine WL.step ?_
            refine WL.move rfl rfl ?_
            refine WL.step ?_
            refine WL.move rfl rfl ?_
            refine WL.step ?_
            refine WL.move rfl rfl ?_
            refine WL.step ?_
            refine WL.y (F := fun _ => True) (Yl.sliceFT (m := i) (n := i + j) F.und9 rfl rfl rfl (by omega) (by omega)) rfl (fun _ _ => trivial) ?_
            have htw : ((text.drop i)).take (i + j - i) = (Fm.word (text.drop i)) := by rw [show i + j - i = (Fm.word (text.drop i)).length by omega]; exact Fm.takeWhile_take _ _
            rw [htw]
            refine WL.step ?_
            refine WL.assign rfl rfl ?_
            refine WL.nil ?_
            refine WQ.then_normal ?_
            refine WC.seq ?_
            refine WC.cutF [(95, .bool (!((Fm.word (text.drop i)) == [48]) && !((Fm.word (text.drop i)) == [49]) && !(Fm.isNameB (Fm.word (text.drop i))))), (0, .string (str text)), (4, .slice (some ⟨b10, 0, none⟩) 10 10), (5, .slice ad out.length cap), (6, .int .i64 (i : Int)), (7, .string (str (Fm.word (text.drop i))))] (fun Q' hQ => ?_) ?_
            · skip
              refine WC.region ?_
              refine WL.step ?_
              refine WL.move rfl rfl ?_
              refine WL.step ?_
              refine WL.neS rfl rfl rfl ?_
              refine WL.step ?_
              refine WL.move rfl rfl ?_
              refine WA.splitB (i := 87) rfl (fun h87 => ?_) (fun h87 => ?_)
              · skip
                refine WL.step (WL.guardT rfl rfl rfl ?_)
                refine WL.move rfl rfl ?_
                refine WL.step (WL.guardT rfl rfl rfl ?_)
                refine WL.neS rfl rfl rfl ?_
                refine WL.step ?_
                refine WL.pickT rfl rfl rfl ?_
                refine WL.step ?_
                refine WL.move rfl rfl ?_
                refine WA.splitB (i := 91) rfl (fun h91 => ?_) (fun h91 => ?_)
                · skip
                  refine WL.step (WL.guardT rfl rfl rfl ?_)
                  refine WL.move rfl rfl ?_
                  refine WL.step (WL.guardT rfl rfl rfl ?_)
                  refine WL.callV F.fun82 rfl rfl (fun w _ => refIsName_c _ w) ?_
                  refine WL.step (WL.guardT rfl rfl rfl ?_)
                  refine WL.not rfl rfl ?_
                  refine WL.step ?_
                  refine WL.pickT rfl rfl rfl ?_
                  refine WL.nil ?_
                  refine WQ.byCut hQ (subF_bool ?_ ⟨rfl, rfl, rfl, rfl, rfl, trivial⟩ rfl)
                  first | (rw [h87, h91]; rfl) | (rw [h87, h91]) | (rw [h87]; rfl)
                · skip
                  refine WL.step (WL.guardF rfl rfl rfl rfl rfl rfl ?_)
                  refine WL.step (WL.guardF rfl rfl rfl rfl rfl rfl ?_)
                  refine WL.step (WL.guardF rfl rfl rfl rfl rfl rfl ?_)
                  refine WL.step ?_
                  refine WL.pickF rfl rfl rfl ?_
                  refine WL.nil ?_
                  refine WQ.byCut hQ (subF_bool ?_ ⟨rfl, rfl, rfl, rfl, rfl, trivial⟩ rfl)
                  first | (rw [h87, h91]; rfl) | (rw [h87, h91]) | (rw [h87]; rfl)
              · skip
                refine WL.step (WL.guardF rfl rfl rfl rfl rfl rfl ?_)
                refine WL.step (WL.guardF rfl rfl rfl rfl rfl rfl ?_)
                refine WL.step ?_
                refine WL.pickF rfl rfl rfl ?_
                refine WL.step ?_
                refine WL.move rfl rfl ?_
                refine WL.step (WL.guardF rfl rfl rfl rfl rfl rfl ?_)
                refine WL.step (WL.guardF rfl rfl rfl rfl rfl rfl ?_)
                refine WL.step (WL.guardF rfl rfl rfl rfl rfl rfl ?_)
                refine WL.step ?_
                refine WL.pickF rfl rfl rfl ?_
                refine WL.nil ?_
                refine WQ.byCut hQ (subF_bool ?_ ⟨rfl, rfl, rfl, rfl, rfl, trivial⟩ rfl)
                first | (rw [h87, h91]; rfl) | (rw [h87, h91]) | (rw [h87]; rfl)
            refine WQ.then_normal ?_
            refine WC.cond rfl (fun h95 => ?_) (fun h95 => ?_)
            · skip
              have htok : Fm.tok (text.drop i) = none := tok_bad hrne hfn h95
              rw [htok] at h1 h2
              refine WC.seq ?_
              refine WC.region ?_
              refine WL.step ?_
              refine WL.move rfl rfl ?_
              refine WL.step ?_
              refine WL.move rfl rfl ?_
              refine WL.step ?_
              refine WL.assign rfl rfl ?_
              refine WL.step ?_
              refine WL.assign rfl rfl ?_
              refine WL.nil ?_
              refine WQ.then_normal ?_
              refine WC.ret ?_
              refine WQ.then_ret ?_
              refine WQ.block_ret ?_
              refine WQ.then_ret ?_
              refine WQ.block_ret ?_
              refine WQ.then_ret ?_
              have hTo : out = T := by simpa using h1
              refine WQ.ret (rs := [.tmp 2, .tmp 3]) rfl (.tmp rfl (.tmp rfl .nil)) (fun w hS => ⟨(ad, cap), ?_, ?_⟩)
              · rw [← hTo, ← h2]; rfl
              · rw [← hTo]; exact ((St.pick hS (c := rowc (.slice ad out.length cap) out.length 86 2 (tkc out)) (by repeat (first | exact Rem.here | apply Rem.there)))).one1
            · skip
              have htok : Fm.tok (text.drop i) = some (Fm.word (text.drop i)) := tok_word hrne hfn h95
              have hpos : 1 ≤ (Fm.word (text.drop i)).length := List.length_pos_iff.2 (Fm.tok_ne htok hrne)
              refine WC.skip ?_
              refine WQ.then_normal ?_
              refine WC.seq ?_
              refine WC.region ?_
              refine WL.step ?_
              refine WL.move rfl rfl ?_
              refine WL.step ?_
              refine WL.move rfl rfl ?_
              refine WL.step ?_
              refine WL.move rfl rfl ?_
              refine WL.step ?_
              refine WL.build F.stT86 rfl (by repeat (first | exact Built.nil | apply Built.one rfl rfl (by repeat constructor) | apply Built.agg rfl rfl (by repeat constructor))) rfl ?_
              refine WL.step ?_
              refine WL.buildSlice F.sl78 F.ez78 rfl rfl rfl rfl (by repeat (first | exact Built.nil | apply Built.one rfl rfl (by repeat constructor) | apply Built.agg rfl rfl (by repeat constructor))) rfl (fun b102 => ?_)
              refine WL.step ?_
              refine WL.appendE (news := [.int .i64 (i : Int), .string (str (Fm.word (text.drop i)))]) F.el78 rfl rfl rfl (by repeat (first | exact Rem.here | apply Rem.there)) (fun w hS j u hu => by rw [Nat.zero_add]; exact hS.cell (cs := [.int .i64 (i : Int), .string (str (Fm.word (text.drop i)))]) (by repeat (first | exact List.Mem.head _ | apply List.Mem.tail)) hu) rfl (by simp [Value.oneCell']) (Nat.le_trans (m := 2199023255552) (by omega) (by decide)) (by omega) (fun ad2 cap2 => ?_)
              refine WL.step ?_
              refine WL.assign rfl rfl ?_
              refine WL.nil ?_
              refine WQ.then_normal ?_
              refine WC.region ?_
              refine WL.step ?_
              refine WL.move rfl rfl ?_
              refine WL.step ?_
              refine WL.move rfl rfl ?_
              refine WL.step ?_
              refine WL.lenS F.und9 rfl rfl ?_
              refine WL.step ?_
              refine WL.add rfl rfl rfl ⟨by omega, by omega⟩ ?_
              refine WL.step ?_
              refine WL.assign rfl rfl ?_
              refine WL.nil ?_
              refine WQ.block_normal ?_
              have hol : (out ++ [(i, (Fm.word (text.drop i)))]).length = out.length + 1 := by simp
              refine WQ.say 5 (.slice ad2 (out ++ [(i, (Fm.word (text.drop i)))]).length cap2) (by rw [hol]; rfl) ?_
              refine WQ.chunks (C' := [rowc (.slice ad2 (out ++ [(i, (Fm.word (text.drop i)))]).length cap2) (out ++ [(i, (Fm.word (text.drop i)))]).length 86 2 (tkc (out ++ [(i, (Fm.word (text.drop i)))])), pt b10 (Fm.signs.map (fun s => Value.string (str s))) 9]) (fun w hS => ?_) ?_
              · rw [tkc_snoc, hol]
                exact ((St.pick (St.pick hS (c := pt b10 (Fm.signs.map (fun s => Value.string (str s))) 9) (by repeat (first | exact Rem.here | apply Rem.there))) (c := rowc (.slice ad2 (out.length + 1) cap2) (out.length + 1) 86 2 (tkc out ++ [.int .i64 (i : Int), .string (str (Fm.word (text.drop i)))])) (by repeat (first | exact Rem.here | apply Rem.there)))).sublist (List.Sublist.cons_cons _ (List.Sublist.cons_cons _ (List.nil_sublist _)))
              refine WQ.back (⟨n, i + (Fm.word (text.drop i)).length, out ++ [(i, (Fm.word (text.drop i)))], ad2, cap2⟩) ?_ ?_ ?_ ?_
              · exact ⟨by rw [htok] at h1; rw [List.append_assoc]; exact h1, by rw [htok] at h2; exact h2, by have := Fm.tok_le htok; simp at this; show i + (Fm.word (text.drop i)).length ≤ _; omega, by show text.length - (i + (Fm.word (text.drop i)).length) < n; omega, by show (out ++ [_]).length + n ≤ _; simp; omega⟩
              · exact Nat.lt_succ_self n
              · exact ⟨rfl, rfl, rfl, rfl, trivial⟩
              · rfl
          · skip
            have hw0 : wd ≠ [] := by simpa using h80
            have htok := tok_sign hrne hwd hw0
            have htl := Fm.tok_le htok
            have hpos : 1 ≤ wd.length := List.length_pos_iff.2 hw0
            rw [List.length_drop] at htl
            refine WC.skip ?_
            refine WQ.then_normal ?_
            refine WC.seq ?_
            refine WC.region ?_
            refine WL.step ?_
            refine WL.move rfl rfl ?_
            refine WL.step ?_
            refine WL.move rfl rfl ?_
            refine WL.step ?_
            refine WL.move rfl rfl ?_
            refine WL.step ?_
            refine WL.build F.stT86 rfl (by repeat (first | exact Built.nil | apply Built.one rfl rfl (by repeat constructor) | apply Built.agg rfl rfl (by repeat constructor))) rfl ?_
            refine WL.step ?_
            refine WL.buildSlice F.sl78 F.ez78 rfl rfl rfl rfl (by repeat (first | exact Built.nil | apply Built.one rfl rfl (by repeat constructor) | apply Built.agg rfl rfl (by repeat constructor))) rfl (fun b102 => ?_)
            refine WL.step ?_
            refine WL.appendE (news := [.int .i64 (i : Int), .string (str wd)]) F.el78 rfl rfl rfl (by repeat (first | exact Rem.here | apply Rem.there)) (fun w hS j u hu => by rw [Nat.zero_add]; exact hS.cell (cs := [.int .i64 (i : Int), .string (str wd)]) (by repeat (first | exact List.Mem.head _ | apply List.Mem.tail)) hu) rfl (by simp [Value.oneCell']) (Nat.le_trans (m := 2199023255552) (by omega) (by decide)) (by omega) (fun ad2 cap2 => ?_)
            refine WL.step ?_
            refine WL.assign rfl rfl ?_
            refine WL.nil ?_
            refine WQ.then_normal ?_
            refine WC.region ?_
            refine WL.step ?_
            refine WL.move rfl rfl ?_
            refine WL.step ?_
            refine WL.move rfl rfl ?_
            refine WL.step ?_
            refine WL.lenS F.und9 rfl rfl ?_
            refine WL.step ?_
            refine WL.add rfl rfl rfl ⟨by omega, by omega⟩ ?_
            refine WL.step ?_
            refine WL.assign rfl rfl ?_
            refine WL.nil ?_
            refine WQ.block_normal ?_
            have hol : (out ++ [(i, wd)]).length = out.length + 1 := by simp
            refine WQ.say 5 (.slice ad2 (out ++ [(i, wd)]).length cap2) (by rw [hol]; rfl) ?_
            refine WQ.chunks (C' := [rowc (.slice ad2 (out ++ [(i, wd)]).length cap2) (out ++ [(i, wd)]).length 86 2 (tkc (out ++ [(i, wd)])), pt b10 (Fm.signs.map (fun s => Value.string (str s))) 9]) (fun w hS => ?_) ?_
            · rw [tkc_snoc, hol]
              exact ((St.pick (St.pick hS (c := pt b10 (Fm.signs.map (fun s => Value.string (str s))) 9) (by repeat (first | exact Rem.here | apply Rem.there))) (c := rowc (.slice ad2 (out.length + 1) cap2) (out.length + 1) 86 2 (tkc out ++ [.int .i64 (i : Int), .string (str wd)])) (by repeat (first | exact Rem.here | apply Rem.there)))).sublist (List.Sublist.cons_cons _ (List.Sublist.cons_cons _ (List.nil_sublist _)))
            refine WQ.back (⟨n, i + wd.length, out ++ [(i, wd)], ad2, cap2⟩) ?_ ?_ ?_ ?_
            · exact ⟨by rw [htok] at h1; rw [List.append_assoc]; exact h1, by rw [htok] at h2; exact h2, by have := Fm.tok_le htok; simp at this; show i + wd.length ≤ _; omega, by show text.length - (i + wd.length) < n; omega, by show (out ++ [_]).length + n ≤ _; simp; omega⟩
            · exact Nat.lt_succ_self n
            · exact ⟨rfl, rfl, rfl, rfl, trivial⟩
            · rfl
  · skip
    have hge : text.length ≤ i := by simp at h14; omega
    rw [if_pos hge] at h1 h2
    refine WC.exit ?_
    refine WQ.then_exit ?_
    refine WQ.then_exit ?_
    refine WQ.block_exit ?_
    refine WQ.then_normal ?_
    refine WC.seq ?_
    refine WC.region ?_
    refine WL.step ?_
    refine WL.move rfl rfl ?_
    refine WL.step ?_
    refine WL.move rfl rfl ?_
    refine WL.step ?_
    refine WL.lenS F.und9 rfl rfl ?_
    refine WL.step ?_
    refine WL.build F.stT86 rfl (by repeat (first | exact Built.nil | apply Built.one rfl rfl (by repeat constructor) | apply Built.agg rfl rfl (by repeat constructor))) rfl ?_
    refine WL.step ?_
    refine WL.buildSlice F.sl78 F.ez78 rfl rfl rfl rfl (by repeat (first | exact Built.nil | apply Built.one rfl rfl (by repeat constructor) | apply Built.agg rfl rfl (by repeat constructor))) rfl (fun b112 => ?_)
    refine WL.step ?_
    refine WL.appendE (news := [.int .i64 (text.length : Int), .string (str ([] : List UInt8))]) F.el78 rfl rfl rfl (by repeat (first | exact Rem.here | apply Rem.there)) (fun w hS j u hu => by rw [Nat.zero_add]; exact hS.cell (cs := [.int .i64 (text.length : Int), .string (str ([] : List UInt8))]) (by repeat (first | exact List.Mem.head _ | apply List.Mem.tail)) hu) rfl (by simp [Value.oneCell']) (Nat.le_trans (m := 2199023255552) (by omega) (by decide)) (by omega) (fun ad2 cap2 => ?_)
    refine WL.step ?_
    refine WL.assign rfl rfl ?_
    refine WL.step ?_
    refine WL.assign rfl rfl ?_
    refine WL.nil ?_
    refine WQ.then_normal ?_
    refine WC.ret ?_
    have hTo : out ++ [(text.length, [])] = T := h1
    have hol : T.length = out.length + 1 := by rw [← hTo]; simp
    refine WQ.ret (rs := [.tmp 2, .tmp 3]) rfl (.tmp rfl (.tmp rfl .nil)) (fun w hS => ⟨(ad2, cap2), ?_, ?_⟩)
    · rw [hol, ← h2]; rfl
    · rw [hol, ← hTo, tkc_snoc]; exact ((St.pick hS (c := rowc (.slice ad2 (out.length + 1) cap2) (out.length + 1) 86 2 (tkc out ++ [.int .i64 (text.length : Int), .string (str [])])) (by repeat (first | exact Rem.here | apply Rem.there)))).one1

end Go.Proofs.Ytbippghgkbapnaa

namespace Go.Proofs.Ytbippghgkbapnaa
open Go Go.Eng Go.Proofs
def RowC (n : Nat) : Prop := ∀ (t : Tree) (wb : World) (G : List Nat) (a : Option Addr) (c : Nat) (w : World), (Fm.rowT t).length ≤ n → rdT wb t G (tv t a c) → Ext wb w →
  Calls Try.prog 38 [tv t a c].toArray w fun e w' => ∃ x : { y : Option Addr × Nat × List Value // NodesOk wb (Fm.rowT t) y.2.2 }, e = .returned (.slice x.1.1 (Fm.rowT t).length x.1.2.1) ∧ St w [] [rowc (.slice x.1.1 (Fm.rowT t).length x.1.2.1) (Fm.rowT t).length 25 3 (flat x.1.2.2)] w'

theorem Row_step (n : Nat) (hn : n ≤ 1099511627776) (hrec : RowC n) : RowC (n + 1) := by
  intro t wb G a c w hsz hr hE
  refine enter Try.func38 rfl Try.ntmps38 rfl (St.init _) ?_
  refine WC.seq ?_
  refine WC.region ?_
  refine WL.step ?_
  refine WL.boxN rfl rfl (fun b1 => ?_)
  refine WL.step ?_
  refine WL.assign rfl rfl ?_
  refine WL.nil ?_
  refine WQ.then_normal ?_
  refine WC.seq ?_
  refine WC.region ?_
  refine WL.step ?_
  refine WL.loadW F.agg25 rfl rfl (by repeat (first | exact List.Mem.head _ | apply List.Mem.tail)) rfl ?_
  refine WL.step ?_
  refine WL.buildSlice F.sl23 F.ez23 rfl rfl rfl rfl (by repeat (first | exact Built.nil | apply Built.one rfl rfl (by repeat constructor) | apply Built.agg rfl rfl (by repeat constructor))) rfl (fun b6 => ?_)
  refine WL.step ?_
  refine WL.assign rfl rfl ?_
  refine WL.nil ?_
  refine WQ.then_normal ?_
  refine WC.seq ?_
  refine WC.seq ?_
  refine WC.region ?_
  refine WL.step ?_
  refine WL.assign rfl rfl ?_
  refine WL.nil ?_
  refine WQ.then_normal ?_
  refine WC.block ?_
  refine WC.chunks (C' := [pt b1 [Value.int .u8 t.op, .string (str t.name), .slice a t.kids.length c] 25, rowc (.slice (some ⟨b6, 0, none⟩) 1 1) 1 25 3 (flat [tv t a c])]) (fun w hS => ?_) ?_
  · exact ((St.pick (St.pick (St.rowOf (n := 1) (sz := 3) (St.pick hS (c := pt b6 [Value.int .u8 t.op, .string (str t.name), .slice a t.kids.length c] 25) (by repeat (first | exact Rem.here | apply Rem.there))) rfl (by decide)) (c := rowc (.slice (some ⟨b6, 0, none⟩) 1 1) 1 25 3 [Value.int .u8 t.op, .string (str t.name), .slice a t.kids.length c]) (by repeat (first | exact Rem.here | apply Rem.there))) (c := pt b1 [Value.int .u8 t.op, .string (str t.name), .slice a t.kids.length c] 25) (by repeat (first | exact Rem.here | apply Rem.there)))).sublist (List.Sublist.cons_cons _ (List.Sublist.cons_cons _ (List.nil_sublist _)))
  refine WC.loop (α := Nat × List Value × Option Addr × Nat) (fun g => g.1 ≤ t.kids.length ∧ NodesOk wb (t :: Fm.rowL (t.kids.take g.1)) g.2.1) (fun g => [(1, pp b1), (3, .slice g.2.2.1 (t :: Fm.rowL (t.kids.take g.1)).length g.2.2.2), (4, .int .i64 (g.1 : Int))]) (fun g => [pt b1 [Value.int .u8 t.op, .string (str t.name), .slice a t.kids.length c] 25, rowc (.slice g.2.2.1 (t :: Fm.rowL (t.kids.take g.1)).length g.2.2.2) (t :: Fm.rowL (t.kids.take g.1)).length 25 3 (flat g.2.1)]) (fun g => t.kids.length - g.1) ((0, [tv t a c], some ⟨b6, 0, none⟩, 1)) ?_ ?_ ?_ ?_
  · exact ⟨Nat.zero_le _, NodesOk.one hr⟩
  · exact ⟨rfl, rfl, rfl, trivial⟩
  · rfl
  rintro ⟨i, vs, ad, cap⟩ ⟨hi, hok⟩
  dsimp only at hi hok
  show WC _ _ _ _ _ _ _ [(1, pp b1), (3, .slice ad (t :: Fm.rowL (t.kids.take i)).length cap), (4, .int .i64 (i : Int))] [pt b1 [Value.int .u8 t.op, .string (str t.name), .slice a t.kids.length c] 25, rowc (.slice ad (t :: Fm.rowL (t.kids.take i)).length cap) (t :: Fm.rowL (t.kids.take i)).length 25 3 (flat vs)]
  refine WC.seq ?_
  refine WC.seq ?_
  refine WC.region ?_
  refine WL.step ?_
  refine WL.move rfl rfl ?_
  refine WL.step ?_
  refine WL.fieldAddr0 F.fld25_2 rfl rfl ?_
  refine WL.step ?_
  refine WL.loadP F.one23 rfl rfl (by repeat (first | exact List.Mem.head _ | apply List.Mem.tail)) rfl ?_
  refine WL.step ?_
  refine WL.lenSl F.und23 rfl rfl ?_
  refine WL.step ?_
  refine WL.ltI rfl rfl rfl ?_
  refine WL.nil ?_
  refine WQ.then_normal ?_
  refine WC.cond rfl (fun h11 => ?_) (fun h11 => ?_)
  · skip
    have hlt : i < t.kids.length := by simpa using h11
    obtain ⟨k, hk⟩ : ∃ k, t.kids[i]? = some k := ⟨_, List.getElem?_eq_getElem hlt⟩
    obtain ⟨b, off, F1, a1, c1, rfl, hb, hF1, hrk, hck⟩ := rdT_at hr hk
    have hks := Fm.rowT_kid hk
    have hkl := Fm.kids_le t
    have hN : (t :: Fm.rowL (t.kids.take i)).length + (Fm.rowT k).length = (t :: Fm.rowL (t.kids.take (i + 1))).length := by rw [Fm.rowL_take hk]; simp; omega
    have hN2 : (t :: Fm.rowL (t.kids.take (i + 1))).length ≤ (Fm.rowT t).length := by rw [Fm.rowT_eq t]; have := Fm.rowL_take_le t.kids (i + 1); simp; omega
    refine WC.skip ?_
    refine WQ.then_normal ?_
    refine WC.seq ?_
    refine WC.block ?_
    refine WC.region ?_
    refine WL.step ?_
    refine WL.move rfl rfl ?_
    refine WL.step ?_
    refine WL.fieldAddr0 F.fld25_2 rfl rfl ?_
    refine WL.step ?_
    refine WL.loadP F.one23 rfl rfl (by repeat (first | exact List.Mem.head _ | apply List.Mem.tail)) rfl ?_
    refine WL.step ?_
    refine WL.move rfl rfl ?_
    refine WL.step ?_
    refine WL.indexAddr F.sl23 rfl rfl rfl hlt ?_
    refine WL.step ?_
    refine WL.loadN F.agg25 rfl rfl (vs := [Value.int .u8 k.op, .string (str k.name), .slice a1 k.kids.length c1]) rfl (fun w hS j v hv => (hE.st hS).cell (hck j v hv)) ?_
    refine WL.step ?_
    refine WL.callC (β := { y : Option Addr × Nat × List Value // NodesOk wb (Fm.rowT k) y.2.2 }) (res := fun x => .slice x.1.1 (Fm.rowT k).length x.1.2.1) (cs := fun x => [rowc (.slice x.1.1 (Fm.rowT k).length x.1.2.1) (Fm.rowT k).length 25 3 (flat x.1.2.2)]) (Cs := []) (O' := []) F.fun38 (fun d h => by cases h; rfl) rfl (List.Perm.refl _) (by simp) (by simp) (fun w hS _ => hrec k wb F1 a1 c1 w (by omega) hrk (hE.st hS)) (fun y20 => ?_)
    obtain ⟨⟨ad2, cap2, vs2⟩, hok2⟩ := y20
    refine WA.know (φ := ∃ g, ad2 = some ⟨g, 0, none⟩ ∧ (Fm.rowT k).length = (Fm.rowT k).length ∧ (Fm.rowT k).length ≤ cap2) (fun w hS => rowc_addr (hS.ok (rowc (.slice ad2 (Fm.rowT k).length cap2) (Fm.rowT k).length 25 3 (flat vs2)) (by repeat (first | exact List.Mem.head _ | apply List.Mem.tail))) (by rw [Fm.rowT_eq]; simp)) (fun ⟨g, hg, _, _⟩ => ?_)
    subst hg
    refine WL.step ?_
    refine WL.appendE (n := (t :: Fm.rowL (t.kids.take i)).length) (m := (Fm.rowT k).length) (news := flat vs2) F.el23 rfl rfl rfl (by repeat (first | exact Rem.here | apply Rem.there)) (fun w hS j u hu => by rw [Nat.zero_add]; exact rowc_cells (hS.ok (rowc (.slice (some ⟨g, 0, none⟩) (Fm.rowT k).length cap2) (Fm.rowT k).length 25 3 (flat vs2)) (by repeat (first | exact List.Mem.head _ | apply List.Mem.tail))) hu) hok2.flat_len hok2.flat_one (Nat.le_trans (m := 1099511627777) (by omega) (by decide)) (by omega) (fun ad3 cap3 => ?_)
    refine WL.step ?_
    refine WL.assign rfl rfl ?_
    refine WL.nil ?_
    refine WQ.block_normal ?_
    refine WQ.then_normal ?_
    refine WC.region ?_
    refine WL.step ?_
    refine WL.move rfl rfl ?_
    refine WL.step ?_
    refine WL.add rfl rfl rfl ⟨by omega, by omega⟩ ?_
    refine WL.step ?_
    refine WL.assign rfl rfl ?_
    refine WL.nil ?_
    rw [hN, ← flat_append]
    refine WQ.chunks (C' := [pt b1 [Value.int .u8 t.op, .string (str t.name), .slice (some ⟨b, off, none⟩) t.kids.length c] 25, rowc (.slice ad3 (t :: Fm.rowL (t.kids.take (i + 1))).length cap3) (t :: Fm.rowL (t.kids.take (i + 1))).length 25 3 (flat (vs ++ vs2))]) (fun w hS => ((St.pick (St.pick hS (c := rowc (.slice ad3 (t :: Fm.rowL (t.kids.take (i + 1))).length cap3) (t :: Fm.rowL (t.kids.take (i + 1))).length 25 3 (flat (vs ++ vs2))) (by repeat (first | exact Rem.here | apply Rem.there))) (c := pt b1 [Value.int .u8 t.op, .string (str t.name), .slice (some ⟨b, off, none⟩) t.kids.length c] 25) (by repeat (first | exact Rem.here | apply Rem.there)))).sublist (List.Sublist.cons_cons _ (List.Sublist.cons_cons _ (List.nil_sublist _)))) ?_
    refine WQ.back ((i + 1, vs ++ vs2, ad3, cap3)) ?_ ?_ ?_ ?_
    · exact ⟨by show i + 1 ≤ _; omega, by show NodesOk wb (t :: Fm.rowL (t.kids.take (i + 1))) (vs ++ vs2); rw [Fm.rowL_take hk, ← List.cons_append]; exact hok.append hok2⟩
    · (show t.kids.length - (i + 1) < t.kids.length - i; omega)
    · exact ⟨rfl, rfl, rfl, trivial⟩
    · rfl
  · skip
    have hie : i = t.kids.length := by simp at h11; omega
    subst hie
    rw [List.take_length, ← Fm.rowT_eq] at hok ⊢
    refine WC.exit ?_
    refine WQ.then_exit ?_
    refine WQ.then_exit ?_
    refine WQ.block_exit ?_
    refine WQ.then_normal ?_
    refine WC.seq ?_
    refine WC.region ?_
    refine WL.step ?_
    refine WL.move rfl rfl ?_
    refine WL.step ?_
    refine WL.assign rfl rfl ?_
    refine WL.nil ?_
    refine WQ.then_normal ?_
    refine WC.ret ?_
    exact WQ.ret (rs := [.tmp 2]) rfl (.tmp rfl .nil) (fun w hS => ⟨⟨(ad, cap, vs), hok⟩, rfl, ((St.pick hS (c := rowc (.slice ad (Fm.rowT t).length cap) (Fm.rowT t).length 25 3 (flat vs)) (by repeat (first | exact Rem.here | apply Rem.there)))).one1⟩)

theorem Row_c : ∀ n, n ≤ 1099511627776 → RowC n
  | 0, _ => fun t wb G a c w hsz _ _ => by rw [Fm.rowT_eq] at hsz; simp at hsz
  | n + 1, h => Row_step n (by omega) (Row_c n (by omega))
def LevC (n : Nat) : Prop := ∀ (t : Tree) (wb : World) (G : List Nat) (a : Option Addr) (c : Nat) (w : World), (Fm.rowT t).length ≤ n → rdT wb t G (tv t a c) → Ext wb w → Pure Try.prog 39 [tv t a c] w (.int .i64 (Fm.levT t : Int))

theorem Lev_step (n : Nat) (hn : n ≤ 1099511627776) (hrec : LevC n) : LevC (n + 1) := by
  intro t wb G a c w hsz hr hE
  refine enter Try.func39 rfl Try.ntmps39 rfl (St.init _) ?_
  refine WC.seq ?_
  refine WC.region ?_
  refine WL.step ?_
  refine WL.boxN rfl rfl (fun b1 => ?_)
  refine WL.step ?_
  refine WL.assign rfl rfl ?_
  refine WL.nil ?_
  refine WQ.then_normal ?_
  refine WC.seq ?_
  refine WC.region ?_
  refine WL.step ?_
  refine WL.assign rfl rfl ?_
  refine WL.nil ?_
  refine WQ.then_normal ?_
  refine WC.seq ?_
  refine WC.seq ?_
  refine WC.region ?_
  refine WL.step ?_
  refine WL.assign rfl rfl ?_
  refine WL.nil ?_
  refine WQ.then_normal ?_
  refine WC.block ?_
  refine WC.loop (α := Nat) (fun i => i ≤ t.kids.length) (fun i => [(1, pp b1), (3, .int .i64 (Fm.levL (t.kids.take i) : Int)), (4, .int .i64 (i : Int))]) (fun _ => [pt b1 [Value.int .u8 t.op, .string (str t.name), .slice a t.kids.length c] 25]) (fun i => t.kids.length - i) (0) ?_ ?_ ?_ ?_
  · exact Nat.zero_le _
  · exact ⟨rfl, rfl, rfl, trivial⟩
  · rfl
  rintro i hi
  refine WC.seq ?_
  refine WC.seq ?_
  refine WC.region ?_
  refine WL.step ?_
  refine WL.move rfl rfl ?_
  refine WL.step ?_
  refine WL.fieldAddr0 F.fld25_2 rfl rfl ?_
  refine WL.step ?_
  refine WL.loadP F.one23 rfl rfl (by repeat (first | exact List.Mem.head _ | apply List.Mem.tail)) rfl ?_
  refine WL.step ?_
  refine WL.lenSl F.und23 rfl rfl ?_
  refine WL.step ?_
  refine WL.ltI rfl rfl rfl ?_
  refine WL.nil ?_
  refine WQ.then_normal ?_
  refine WC.cond rfl (fun h11 => ?_) (fun h11 => ?_)
  · skip
    have hlt : i < t.kids.length := by simpa using h11
    obtain ⟨k, hk⟩ : ∃ k, t.kids[i]? = some k := ⟨_, List.getElem?_eq_getElem hlt⟩
    obtain ⟨b, off, F1, a1, c1, rfl, hb, hF1, hrk, hck⟩ := rdT_at hr hk
    have hks := Fm.rowT_kid hk
    have hkl := Fm.kids_le t
    refine WC.skip ?_
    refine WQ.then_normal ?_
    refine WC.seq ?_
    refine WC.block ?_
    refine WC.region ?_
    refine WL.step ?_
    refine WL.move rfl rfl ?_
    refine WL.step ?_
    refine WL.fieldAddr0 F.fld25_2 rfl rfl ?_
    refine WL.step ?_
    refine WL.loadP F.one23 rfl rfl (by repeat (first | exact List.Mem.head _ | apply List.Mem.tail)) rfl ?_
    refine WL.step ?_
    refine WL.move rfl rfl ?_
    refine WL.step ?_
    refine WL.indexAddr F.sl23 rfl rfl rfl hlt ?_
    refine WL.step ?_
    refine WL.loadN F.agg25 rfl rfl (vs := [Value.int .u8 k.op, .string (str k.name), .slice a1 k.kids.length c1]) rfl (fun w hS j v hv => (hE.st hS).cell (hck j v hv)) ?_
    refine WL.step ?_
    refine WL.callV F.fun39 rfl rfl (fun w hS => hrec k wb F1 a1 c1 w (by omega) hrk (hE.st hS)) ?_
    refine WL.step ?_
    refine WL.maxI (r := (Fm.levL (t.kids.take (i + 1)) : Int)) rfl rfl rfl (by rw [Fm.levL_take hk]; split <;> omega) ?_
    refine WL.step ?_
    refine WL.assign rfl rfl ?_
    refine WL.nil ?_
    refine WQ.block_normal ?_
    refine WQ.then_normal ?_
    refine WC.region ?_
    refine WL.step ?_
    refine WL.move rfl rfl ?_
    refine WL.step ?_
    refine WL.add rfl rfl rfl ⟨by omega, by omega⟩ ?_
    refine WL.step ?_
    refine WL.assign rfl rfl ?_
    refine WL.nil ?_
    refine WQ.back (i + 1) ?_ ?_ ?_ ?_
    · exact by omega
    · omega
    · exact ⟨rfl, rfl, rfl, trivial⟩
    · rfl
  · skip
    have hie : i = t.kids.length := by simp at h11; omega
    subst hie
    rw [List.take_length]
    have hll := Fm.levT_le t
    rw [Fm.levT_eq] at hll
    refine WC.exit ?_
    refine WQ.then_exit ?_
    refine WQ.then_exit ?_
    refine WQ.block_exit ?_
    refine WQ.then_normal ?_
    refine WC.seq ?_
    refine WC.region ?_
    refine WL.step ?_
    refine WL.move rfl rfl ?_
    refine WL.step ?_
    refine WL.add rfl rfl rfl ⟨by omega, by omega⟩ ?_
    refine WL.step ?_
    refine WL.assign rfl rfl ?_
    refine WL.nil ?_
    refine WQ.then_normal ?_
    refine WC.ret ?_
    exact WQ.ret (rs := [.tmp 2]) rfl (.tmp rfl .nil) (fun w hS => ⟨by rw [Fm.levT_eq]; rfl, hS.drop⟩)

theorem Lev_c : ∀ n, n ≤ 1099511627776 → LevC n
  | 0, _ => fun t wb G a c w hsz _ _ => by rw [Fm.rowT_eq] at hsz; simp at hsz
  | n + 1, h => Lev_step n (by omega) (Lev_c n (by omega))

theorem one_c (t : Tree) (a : Option Addr) (c : Nat) (w : World) : Pure Try.prog 58 [tv t a c] w (.bool (Fm.oneB t)) := by
  refine enter Try.func58 rfl Try.ntmps58 rfl (St.init _) ?_
  refine WC.seq ?_
  refine WC.region ?_
  refine WL.step ?_
  refine WL.boxN rfl rfl (fun b1 => ?_)
  refine WL.step ?_
  refine WL.assign rfl rfl ?_
  refine WL.nil ?_
  refine WQ.then_normal ?_
  refine WC.seq ?_
  refine WC.region ?_
  refine WL.step ?_
  refine WL.fieldAddr0 F.fld25_2 rfl rfl ?_
  refine WL.step ?_
  refine WL.loadP F.one23 rfl rfl (by repeat (first | exact List.Mem.head _ | apply List.Mem.tail)) rfl ?_
  refine WL.step ?_
  refine WL.lenSl F.und23 rfl rfl ?_
  refine WL.step ?_
  refine WL.assign rfl rfl ?_
  refine WL.nil ?_
  refine WQ.then_normal ?_
  refine WC.seq ?_
  refine WC.seq ?_
  refine WC.region ?_
  refine WL.step ?_
  refine WL.fieldAddr0 F.fld25_0 rfl rfl ?_
  refine WL.step ?_
  refine WL.loadP F.one5 rfl rfl (by repeat (first | exact List.Mem.head _ | apply List.Mem.tail)) rfl ?_
  refine WL.step ?_
  refine WL.eqI rfl rfl rfl ?_
  refine WL.nil ?_
  refine WQ.then_normal ?_
  refine WC.cond rfl (fun h9 => ?_) (fun h9 => ?_)
  · skip
    have h9p : t.op = 3 := by simpa using h9
    refine WC.seq ?_
    refine WC.region ?_
    refine WL.step ?_
    refine WL.move rfl rfl ?_
    refine WL.step ?_
    refine WL.eqI rfl rfl rfl ?_
    refine WL.step ?_
    refine WL.move rfl rfl ?_
    refine WA.splitB (i := 12) rfl (fun h12 => ?_) (fun h12 => ?_)
    · skip
      refine WL.step (WL.guardT rfl rfl rfl ?_)
      refine WL.fieldAddr0 F.fld25_1 rfl rfl ?_
      refine WL.step (WL.guardT rfl rfl rfl ?_)
      refine WL.loadP F.one9 rfl rfl (by repeat (first | exact List.Mem.head _ | apply List.Mem.tail)) rfl ?_
      refine WL.step (WL.guardT rfl rfl rfl ?_)
      refine WL.callV F.fun82 rfl rfl (fun w _ => refIsName_c _ w) ?_
      refine WL.step ?_
      refine WL.pickT rfl rfl rfl ?_
      refine WL.step ?_
      refine WL.assign rfl rfl ?_
      refine WL.nil ?_
      refine WQ.then_normal ?_
      refine WC.ret ?_
      refine WQ.then_ret ?_
      refine WQ.ret (rs := [.tmp 2]) rfl (.tmp rfl .nil) (fun w hS => ⟨?_, hS.drop⟩)
      refine congrArg (fun b => Ending.returned (Value.bool b)) ?_
      unfold Fm.oneB
      first | (simp_all; done) | (simp_all; rw [Bool.eq_iff_iff]; simp; done) | (simp_all; rw [Bool.eq_iff_iff]; simp; omega) | (rw [Bool.eq_iff_iff]; simp_all; omega)
    · skip
      refine WL.step (WL.guardF rfl rfl rfl rfl rfl rfl ?_)
      refine WL.step (WL.guardF rfl rfl rfl rfl rfl rfl ?_)
      refine WL.step (WL.guardF rfl rfl rfl rfl rfl rfl ?_)
      refine WL.step ?_
      refine WL.pickF rfl rfl rfl ?_
      refine WL.step ?_
      refine WL.assign rfl rfl ?_
      refine WL.nil ?_
      refine WQ.then_normal ?_
      refine WC.ret ?_
      refine WQ.then_ret ?_
      refine WQ.ret (rs := [.tmp 2]) rfl (.tmp rfl .nil) (fun w hS => ⟨?_, hS.drop⟩)
      refine congrArg (fun b => Ending.returned (Value.bool b)) ?_
      unfold Fm.oneB
      first | (simp_all; done) | (simp_all; rw [Bool.eq_iff_iff]; simp; done) | (simp_all; rw [Bool.eq_iff_iff]; simp; omega) | (rw [Bool.eq_iff_iff]; simp_all; omega)
  · skip
    have h9p : t.op ≠ 3 := by simpa using h9
    refine WC.skip ?_
    refine WQ.then_normal ?_
    refine WC.seq ?_
    refine WC.seq ?_
    refine WC.region ?_
    refine WL.step ?_
    refine WL.fieldAddr0 F.fld25_1 rfl rfl ?_
    refine WL.step ?_
    refine WL.loadP F.one9 rfl rfl (by repeat (first | exact List.Mem.head _ | apply List.Mem.tail)) rfl ?_
    refine WL.step ?_
    refine WL.neS rfl rfl rfl ?_
    refine WL.nil ?_
    refine WQ.then_normal ?_
    refine WC.cond rfl (fun h19 => ?_) (fun h19 => ?_)
    · skip
      have h19p : t.name ≠ [] := by simpa using h19
      refine WC.seq ?_
      refine WC.region ?_
      refine WL.step ?_
      refine WL.assign rfl rfl ?_
      refine WL.nil ?_
      refine WQ.then_normal ?_
      refine WC.ret ?_
      refine WQ.then_ret ?_
      refine WQ.ret (rs := [.tmp 2]) rfl (.tmp rfl .nil) (fun w hS => ⟨?_, hS.drop⟩)
      refine congrArg (fun b => Ending.returned (Value.bool b)) ?_
      unfold Fm.oneB
      first | (simp_all; done) | (simp_all; rw [Bool.eq_iff_iff]; simp; done) | (simp_all; rw [Bool.eq_iff_iff]; simp; omega) | (rw [Bool.eq_iff_iff]; simp_all; omega)
    · skip
      have h19p : t.name = [] := by simpa using h19
      refine WC.skip ?_
      refine WQ.then_normal ?_
      refine WC.seq ?_
      refine WC.seq ?_
      refine WC.region ?_
      refine WL.step ?_
      refine WL.fieldAddr0 F.fld25_0 rfl rfl ?_
      refine WL.step ?_
      refine WL.loadP F.one5 rfl rfl (by repeat (first | exact List.Mem.head _ | apply List.Mem.tail)) rfl ?_
      refine WL.nil ?_
      refine WQ.then_normal ?_
      refine WC.block ?_
      refine WC.seq ?_
      refine WC.seq ?_
      refine WC.region ?_
      refine WL.step ?_
      refine WL.eqI rfl rfl rfl ?_
      refine WL.step ?_
      refine WL.assign rfl rfl ?_
      refine WL.nil ?_
      refine WQ.then_normal ?_
      refine WC.splitB (i := 22) rfl (fun h22 => ?_) (fun h22 => ?_)
      · skip
        refine WC.condT rfl ?_
        refine WC.skip ?_
        refine WQ.then_normal ?_
        refine WC.condT rfl ?_
        refine WC.seq ?_
        refine WC.region ?_
        refine WL.step ?_
        refine WL.move rfl rfl ?_
        refine WL.step ?_
        refine WL.eqI rfl rfl rfl ?_
        refine WL.step ?_
        refine WL.assign rfl rfl ?_
        refine WL.nil ?_
        refine WQ.then_normal ?_
        refine WC.ret ?_
        refine WQ.block_ret ?_
        refine WQ.then_ret ?_
        refine WQ.ret (rs := [.tmp 2]) rfl (.tmp rfl .nil) (fun w hS => ⟨?_, hS.drop⟩)
        refine congrArg (fun b => Ending.returned (Value.bool b)) ?_
        unfold Fm.oneB
        first | (simp_all; done) | (simp_all; rw [Bool.eq_iff_iff]; simp; done) | (simp_all; rw [Bool.eq_iff_iff]; simp; omega) | (rw [Bool.eq_iff_iff]; simp_all; omega)
      · skip
        refine WC.condF rfl ?_
        refine WC.region ?_
        refine WL.step ?_
        refine WL.eqI rfl rfl rfl ?_
        refine WL.step ?_
        refine WL.assign rfl rfl ?_
        refine WL.nil ?_
        refine WQ.then_normal ?_
        refine WC.splitB (i := 22) rfl (fun h22 => ?_) (fun h22 => ?_)
        · skip
          refine WC.condT rfl ?_
          refine WC.seq ?_
          refine WC.region ?_
          refine WL.step ?_
          refine WL.move rfl rfl ?_
          refine WL.step ?_
          refine WL.eqI rfl rfl rfl ?_
          refine WL.step ?_
          refine WL.assign rfl rfl ?_
          refine WL.nil ?_
          refine WQ.then_normal ?_
          refine WC.ret ?_
          refine WQ.block_ret ?_
          refine WQ.then_ret ?_
          refine WQ.ret (rs := [.tmp 2]) rfl (.tmp rfl .nil) (fun w hS => ⟨?_, hS.drop⟩)
          refine congrArg (fun b => Ending.returned (Value.bool b)) ?_
          unfold Fm.oneB
          first | (simp_all; done) | (simp_all; rw [Bool.eq_iff_iff]; simp; done) | (simp_all; rw [Bool.eq_iff_iff]; simp; omega) | (rw [Bool.eq_iff_iff]; simp_all; omega)
        · skip
          refine WC.condF rfl ?_
          refine WC.seq ?_
          refine WC.region ?_
          refine WL.step ?_
          refine WL.eqI rfl rfl rfl ?_
          refine WL.step ?_
          refine WL.assign rfl rfl ?_
          refine WL.nil ?_
          refine WQ.then_normal ?_
          refine WC.cond rfl (fun h27 => ?_) (fun h27 => ?_)
          · skip
            refine WC.seq ?_
            refine WC.region ?_
            refine WL.step ?_
            refine WL.move rfl rfl ?_
            refine WL.step ?_
            refine WL.eqI rfl rfl rfl ?_
            refine WL.step ?_
            refine WL.assign rfl rfl ?_
            refine WL.nil ?_
            refine WQ.then_normal ?_
            refine WC.ret ?_
            refine WQ.block_ret ?_
            refine WQ.then_ret ?_
            refine WQ.ret (rs := [.tmp 2]) rfl (.tmp rfl .nil) (fun w hS => ⟨?_, hS.drop⟩)
            refine congrArg (fun b => Ending.returned (Value.bool b)) ?_
            unfold Fm.oneB
            first | (simp_all; done) | (simp_all; rw [Bool.eq_iff_iff]; simp; done) | (simp_all; rw [Bool.eq_iff_iff]; simp; omega) | (rw [Bool.eq_iff_iff]; simp_all; omega)
          · skip
            refine WC.seq ?_
            refine WC.seq ?_
            refine WC.region ?_
            refine WL.step ?_
            refine WL.eqI rfl rfl rfl ?_
            refine WL.step ?_
            refine WL.assign rfl rfl ?_
            refine WL.nil ?_
            refine WQ.then_normal ?_
            refine WC.splitB (i := 31) rfl (fun h31 => ?_) (fun h31 => ?_)
            · skip
              refine WC.condT rfl ?_
              refine WC.skip ?_
              refine WQ.then_normal ?_
              refine WC.condT rfl ?_
              refine WC.seq ?_
              refine WC.region ?_
              refine WL.step ?_
              refine WL.move rfl rfl ?_
              refine WL.step ?_
              refine WL.geI rfl rfl rfl ?_
              refine WL.step ?_
              refine WL.assign rfl rfl ?_
              refine WL.nil ?_
              refine WQ.then_normal ?_
              refine WC.ret ?_
              refine WQ.block_ret ?_
              refine WQ.then_ret ?_
              refine WQ.ret (rs := [.tmp 2]) rfl (.tmp rfl .nil) (fun w hS => ⟨?_, hS.drop⟩)
              refine congrArg (fun b => Ending.returned (Value.bool b)) ?_
              unfold Fm.oneB
              first | (simp_all; done) | (simp_all; rw [Bool.eq_iff_iff]; simp; done) | (simp_all; rw [Bool.eq_iff_iff]; simp; omega) | (rw [Bool.eq_iff_iff]; simp_all; omega)
            · skip
              refine WC.condF rfl ?_
              refine WC.seq ?_
              refine WC.region ?_
              refine WL.step ?_
              refine WL.eqI rfl rfl rfl ?_
              refine WL.step ?_
              refine WL.assign rfl rfl ?_
              refine WL.nil ?_
              refine WQ.then_normal ?_
              refine WC.splitB (i := 31) rfl (fun h31 => ?_) (fun h31 => ?_)
              · skip
                refine WC.condT rfl ?_
                refine WC.skip ?_
                refine WQ.then_normal ?_
                refine WC.condT rfl ?_
                refine WC.seq ?_
                refine WC.region ?_
                refine WL.step ?_
                refine WL.move rfl rfl ?_
                refine WL.step ?_
                refine WL.geI rfl rfl rfl ?_
                refine WL.step ?_
                refine WL.assign rfl rfl ?_
                refine WL.nil ?_
                refine WQ.then_normal ?_
                refine WC.ret ?_
                refine WQ.block_ret ?_
                refine WQ.then_ret ?_
                refine WQ.ret (rs := [.tmp 2]) rfl (.tmp rfl .nil) (fun w hS => ⟨?_, hS.drop⟩)
                refine congrArg (fun b => Ending.returned (Value.bool b)) ?_
                unfold Fm.oneB
                first | (simp_all; done) | (simp_all; rw [Bool.eq_iff_iff]; simp; done) | (simp_all; rw [Bool.eq_iff_iff]; simp; omega) | (rw [Bool.eq_iff_iff]; simp_all; omega)
              · skip
                refine WC.condF rfl ?_
                refine WC.region ?_
                refine WL.step ?_
                refine WL.eqI rfl rfl rfl ?_
                refine WL.step ?_
                refine WL.assign rfl rfl ?_
                refine WL.nil ?_
                refine WQ.then_normal ?_
                refine WC.splitB (i := 31) rfl (fun h31 => ?_) (fun h31 => ?_)
                · skip
                  refine WC.condT rfl ?_
                  refine WC.seq ?_
                  refine WC.region ?_
                  refine WL.step ?_
                  refine WL.move rfl rfl ?_
                  refine WL.step ?_
                  refine WL.geI rfl rfl rfl ?_
                  refine WL.step ?_
                  refine WL.assign rfl rfl ?_
                  refine WL.nil ?_
                  refine WQ.then_normal ?_
                  refine WC.ret ?_
                  refine WQ.block_ret ?_
                  refine WQ.then_ret ?_
                  refine WQ.ret (rs := [.tmp 2]) rfl (.tmp rfl .nil) (fun w hS => ⟨?_, hS.drop⟩)
                  refine congrArg (fun b => Ending.returned (Value.bool b)) ?_
                  unfold Fm.oneB
                  first | (simp_all; done) | (simp_all; rw [Bool.eq_iff_iff]; simp; done) | (simp_all; rw [Bool.eq_iff_iff]; simp; omega) | (rw [Bool.eq_iff_iff]; simp_all; omega)
                · skip
                  refine WC.condF rfl ?_
                  refine WC.seq ?_
                  refine WC.seq ?_
                  refine WC.region ?_
                  refine WL.step ?_
                  refine WL.eqI rfl rfl rfl ?_
                  refine WL.step ?_
                  refine WL.assign rfl rfl ?_
                  refine WL.nil ?_
                  refine WQ.then_normal ?_
                  refine WC.splitB (i := 37) rfl (fun h37 => ?_) (fun h37 => ?_)
                  · skip
                    refine WC.condT rfl ?_
                    refine WC.skip ?_
                    refine WQ.then_normal ?_
                    refine WC.condT rfl ?_
                    refine WC.seq ?_
                    refine WC.region ?_
                    refine WL.step ?_
                    refine WL.move rfl rfl ?_
                    refine WL.step ?_
                    refine WL.eqI rfl rfl rfl ?_
                    refine WL.step ?_
                    refine WL.assign rfl rfl ?_
                    refine WL.nil ?_
                    refine WQ.then_normal ?_
                    refine WC.ret ?_
                    refine WQ.block_ret ?_
                    refine WQ.then_ret ?_
                    refine WQ.ret (rs := [.tmp 2]) rfl (.tmp rfl .nil) (fun w hS => ⟨?_, hS.drop⟩)
                    refine congrArg (fun b => Ending.returned (Value.bool b)) ?_
                    unfold Fm.oneB
                    first | (simp_all; done) | (simp_all; rw [Bool.eq_iff_iff]; simp; done) | (simp_all; rw [Bool.eq_iff_iff]; simp; omega) | (rw [Bool.eq_iff_iff]; simp_all; omega)
                  · skip
                    refine WC.condF rfl ?_
                    refine WC.region ?_
                    refine WL.step ?_
                    refine WL.eqI rfl rfl rfl ?_
                    refine WL.step ?_
                    refine WL.assign rfl rfl ?_
                    refine WL.nil ?_
                    refine WQ.then_normal ?_
                    refine WC.splitB (i := 37) rfl (fun h37 => ?_) (fun h37 => ?_)
                    · skip
                      refine WC.condT rfl ?_
                      refine WC.seq ?_
                      refine WC.region ?_
                      refine WL.step ?_
                      refine WL.move rfl rfl ?_
                      refine WL.step ?_
                      refine WL.eqI rfl rfl rfl ?_
                      refine WL.step ?_
                      refine WL.assign rfl rfl ?_
                      refine WL.nil ?_
                      refine WQ.then_normal ?_
                      refine WC.ret ?_
                      refine WQ.block_ret ?_
                      refine WQ.then_ret ?_
                      refine WQ.ret (rs := [.tmp 2]) rfl (.tmp rfl .nil) (fun w hS => ⟨?_, hS.drop⟩)
                      refine congrArg (fun b => Ending.returned (Value.bool b)) ?_
                      unfold Fm.oneB
                      first | (simp_all; done) | (simp_all; rw [Bool.eq_iff_iff]; simp; done) | (simp_all; rw [Bool.eq_iff_iff]; simp; omega) | (rw [Bool.eq_iff_iff]; simp_all; omega)
                    · skip
                      refine WC.condF rfl ?_
                      refine WC.seq ?_
                      refine WC.region ?_
                      refine WL.step ?_
                      refine WL.eqI rfl rfl rfl ?_
                      refine WL.step ?_
                      refine WL.assign rfl rfl ?_
                      refine WL.nil ?_
                      refine WQ.then_normal ?_
                      refine WC.cond rfl (fun h42 => ?_) (fun h42 => ?_)
                      · skip
                        refine WC.seq ?_
                        refine WC.region ?_
                        refine WL.step ?_
                        refine WL.move rfl rfl ?_
                        refine WL.step ?_
                        refine WL.eqI rfl rfl rfl ?_
                        refine WL.step ?_
                        refine WL.assign rfl rfl ?_
                        refine WL.nil ?_
                        refine WQ.then_normal ?_
                        refine WC.ret ?_
                        refine WQ.block_ret ?_
                        refine WQ.then_ret ?_
                        refine WQ.ret (rs := [.tmp 2]) rfl (.tmp rfl .nil) (fun w hS => ⟨?_, hS.drop⟩)
                        refine congrArg (fun b => Ending.returned (Value.bool b)) ?_
                        unfold Fm.oneB
                        first | (simp_all; done) | (simp_all; rw [Bool.eq_iff_iff]; simp; done) | (simp_all; rw [Bool.eq_iff_iff]; simp; omega) | (rw [Bool.eq_iff_iff]; simp_all; omega)
                      · skip
                        refine WC.skip ?_
                        refine WQ.block_normal ?_
                        refine WQ.then_normal ?_
                        refine WC.seq ?_
                        refine WC.region ?_
                        refine WL.step ?_
                        refine WL.assign rfl rfl ?_
                        refine WL.nil ?_
                        refine WQ.then_normal ?_
                        refine WC.ret ?_
                        refine WQ.ret (rs := [.tmp 2]) rfl (.tmp rfl .nil) (fun w hS => ⟨?_, hS.drop⟩)
                        refine congrArg (fun b => Ending.returned (Value.bool b)) ?_
                        unfold Fm.oneB
                        first | (simp_all; done) | (simp_all; rw [Bool.eq_iff_iff]; simp; done) | (simp_all; rw [Bool.eq_iff_iff]; simp; omega) | (rw [Bool.eq_iff_iff]; simp_all; omega)

theorem rvalid_c (t : Tree) (wb : World) (G : List Nat) (a : Option Addr) (c : Nat) (w : World) (hsz : (Fm.rowT t).length ≤ 1099511627776) (hr : rdT wb t G (tv t a c)) (hE : Ext wb w) : Pure Try.prog 20 [tv t a c] w (.bool (Fm.refValid t)) := by
  refine enter Try.func20 rfl Try.ntmps20 rfl (St.init _) ?_
  refine WC.seq ?_
  refine WC.region ?_
  refine WL.step ?_
  refine WL.boxN rfl rfl (fun b1 => ?_)
  refine WL.step ?_
  refine WL.assign rfl rfl ?_
  refine WL.nil ?_
  refine WQ.then_normal ?_
  refine WC.seq ?_
  refine WC.region ?_
  refine WL.step ?_
  refine WL.loadW F.agg25 rfl rfl (by repeat (first | exact List.Mem.head _ | apply List.Mem.tail)) rfl ?_
  refine WL.step ?_
  refine WL.callC (β := { y : Option Addr × Nat × List Value // NodesOk wb (Fm.rowT t) y.2.2 }) (res := fun x => .slice x.1.1 (Fm.rowT t).length x.1.2.1) (cs := fun x => [rowc (.slice x.1.1 (Fm.rowT t).length x.1.2.1) (Fm.rowT t).length 25 3 (flat x.1.2.2)]) (Cs := []) (O' := []) F.fun38 (fun d h => by cases h; rfl) rfl (List.Perm.refl _) (by simp) (by simp) (fun w hS _ => Row_c _ hsz t wb G a c w (Nat.le_refl _) hr (hE.st hS)) (fun y6 => ?_)
  obtain ⟨⟨ad, cap, vs⟩, hok⟩ := y6
  refine WA.know (φ := ∃ g, ad = some ⟨g, 0, none⟩ ∧ (Fm.rowT t).length = (Fm.rowT t).length ∧ (Fm.rowT t).length ≤ cap) (fun w hS => rowc_addr (hS.ok (rowc (.slice ad (Fm.rowT t).length cap) (Fm.rowT t).length 25 3 (flat vs)) (by repeat (first | exact List.Mem.head _ | apply List.Mem.tail))) (by rw [Fm.rowT_eq]; simp)) (fun ⟨g, hg, _, _⟩ => ?_)
  subst hg
  refine WL.step ?_
  refine WL.assign rfl rfl ?_
  refine WL.nil ?_
  refine WQ.then_normal ?_
  refine WC.seq ?_
  refine WC.seq ?_
  refine WC.region ?_
  refine WL.step ?_
  refine WL.assign rfl rfl ?_
  refine WL.nil ?_
  refine WQ.then_normal ?_
  refine WC.block ?_
  refine WC.loop (α := Nat) (fun i => i ≤ (Fm.rowT t).length ∧ ((Fm.rowT t).take i).all Fm.oneB = true) (fun i => [(1, pp b1), (3, .slice (some ⟨g, 0, none⟩) (Fm.rowT t).length cap), (4, .int .i64 (i : Int))]) (fun _ => [rowc (.slice (some ⟨g, 0, none⟩) (Fm.rowT t).length cap) (Fm.rowT t).length 25 3 (flat vs), pt b1 [Value.int .u8 t.op, .string (str t.name), .slice a t.kids.length c] 25]) (fun i => (Fm.rowT t).length - i) (0) ?_ ?_ ?_ ?_
  · exact ⟨Nat.zero_le _, rfl⟩
  · exact ⟨rfl, rfl, rfl, trivial⟩
  · rfl
  rintro i ⟨hi, hal⟩
  refine WC.seq ?_
  refine WC.seq ?_
  refine WC.region ?_
  refine WL.step ?_
  refine WL.move rfl rfl ?_
  refine WL.step ?_
  refine WL.move rfl rfl ?_
  refine WL.step ?_
  refine WL.lenSl F.und23 rfl rfl ?_
  refine WL.step ?_
  refine WL.ltI rfl rfl rfl ?_
  refine WL.nil ?_
  refine WQ.then_normal ?_
  refine WC.cond rfl (fun h10 => ?_) (fun h10 => ?_)
  · skip
    have hlt : i < (Fm.rowT t).length := by simpa using h10
    obtain ⟨k, hk⟩ : ∃ k, (Fm.rowT t)[i]? = some k := ⟨_, List.getElem?_eq_getElem hlt⟩
    obtain ⟨F1, a1, c1, hv1, hrk⟩ := hok.at hk
    refine WC.skip ?_
    refine WQ.then_normal ?_
    refine WC.seq ?_
    refine WC.block ?_
    refine WC.seq ?_
    refine WC.region ?_
    refine WL.step ?_
    refine WL.move rfl rfl ?_
    refine WL.step ?_
    refine WL.move rfl rfl ?_
    refine WL.step ?_
    refine WL.indexAddr F.sl23 rfl rfl rfl hlt ?_
    refine WL.step ?_
    refine WL.loadN F.agg25 rfl rfl (vs := [Value.int .u8 k.op, .string (str k.name), .slice a1 k.kids.length c1]) rfl (fun w hS j v hv => by rw [Nat.zero_add]; exact rowc_cells (hS.ok (rowc (.slice (some ⟨g, 0, none⟩) (Fm.rowT t).length cap) (Fm.rowT t).length 25 3 (flat vs)) (by repeat (first | exact List.Mem.head _ | apply List.Mem.tail))) (hok.flat_at hv1 j v hv)) ?_
    refine WL.step ?_
    refine WL.callV F.fun58 rfl rfl (fun w _ => one_c k a1 c1 w) ?_
    refine WL.step ?_
    refine WL.not rfl rfl ?_
    refine WL.nil ?_
    refine WQ.then_normal ?_
    refine WC.cond rfl (fun h18 => ?_) (fun h18 => ?_)
    · skip
      refine WC.seq ?_
      refine WC.region ?_
      refine WL.step ?_
      refine WL.assign rfl rfl ?_
      refine WL.nil ?_
      refine WQ.then_normal ?_
      refine WC.ret ?_
      refine WQ.block_ret ?_
      refine WQ.then_ret ?_
      refine WQ.then_ret ?_
      refine WQ.block_ret ?_
      refine WQ.then_ret ?_
      refine WQ.ret (rs := [.tmp 2]) rfl (.tmp rfl .nil) (fun w hS => ⟨?_, hS.drop.drop⟩)
      have h9 : (Fm.rowT t).all Fm.oneB = false := by rw [List.all_eq_false]; exact ⟨k, List.mem_of_getElem? hk, by simpa using h18⟩
      simp [tup, Fm.refValid, h9]
    · skip
      refine WC.skip ?_
      refine WQ.block_normal ?_
      refine WQ.then_normal ?_
      refine WC.region ?_
      refine WL.step ?_
      refine WL.move rfl rfl ?_
      refine WL.step ?_
      refine WL.add rfl rfl rfl ⟨by omega, by omega⟩ ?_
      refine WL.step ?_
      refine WL.assign rfl rfl ?_
      refine WL.nil ?_
      refine WQ.back (i + 1) ?_ ?_ ?_ ?_
      · exact ⟨by omega, by rw [List.take_add_one, hk]; simp only [Option.toList, List.all_append, hal, List.all_cons, List.all_nil]; simpa using h18⟩
      · omega
      · exact ⟨rfl, rfl, rfl, trivial⟩
      · rfl
  · skip
    have hie : i = (Fm.rowT t).length := by simp at h10; omega
    subst hie
    rw [List.take_length] at hal
    refine WC.exit ?_
    refine WQ.then_exit ?_
    refine WQ.then_exit ?_
    refine WQ.block_exit ?_
    refine WQ.then_normal ?_
    refine WC.seq ?_
    refine WC.region ?_
    refine WL.step ?_
    refine WL.move rfl rfl ?_
    refine WL.step ?_
    refine WL.lenSl F.und23 rfl rfl ?_
    refine WL.step ?_
    refine WL.leI rfl rfl rfl ?_
    refine WL.step ?_
    refine WL.move rfl rfl ?_
    refine WA.splitB (i := 22) rfl (fun h22 => ?_) (fun h22 => ?_)
    · skip
      have hl : (Fm.rowT t).length ≤ 1000 := by simp at h22; omega
      refine WL.step (WL.guardT rfl rfl rfl ?_)
      refine WL.loadW F.agg25 rfl rfl (by repeat (first | exact List.Mem.head _ | apply List.Mem.tail)) rfl ?_
      refine WL.step (WL.guardT rfl rfl rfl ?_)
      refine WL.callV F.fun39 rfl rfl (fun w hS => Lev_c _ hsz t wb G a c w (Nat.le_refl _) hr (hE.st hS)) ?_
      refine WL.step (WL.guardT rfl rfl rfl ?_)
      refine WL.leI rfl rfl rfl ?_
      refine WL.step ?_
      refine WL.pickT rfl rfl rfl ?_
      refine WL.step ?_
      refine WL.assign rfl rfl ?_
      refine WL.nil ?_
      refine WQ.then_normal ?_
      refine WC.ret ?_
      refine WQ.ret (rs := [.tmp 2]) rfl (.tmp rfl .nil) (fun w hS => ⟨?_, hS.drop.drop⟩)
      first | (simp [tup, Fm.refValid, hal, hl]; omega) | (simp [tup, Fm.refValid, hal, hl]; done)
    · skip
      have hl : ¬ (Fm.rowT t).length ≤ 1000 := by simp at h22; omega
      refine WL.step (WL.guardF rfl rfl rfl rfl rfl rfl ?_)
      refine WL.step (WL.guardF rfl rfl rfl rfl rfl rfl ?_)
      refine WL.step (WL.guardF rfl rfl rfl rfl rfl rfl ?_)
      refine WL.step ?_
      refine WL.pickF rfl rfl rfl ?_
      refine WL.step ?_
      refine WL.assign rfl rfl ?_
      refine WL.nil ?_
      refine WQ.then_normal ?_
      refine WC.ret ?_
      refine WQ.ret (rs := [.tmp 2]) rfl (.tmp rfl .nil) (fun w hS => ⟨?_, hS.drop.drop⟩)
      first | (simp [tup, Fm.refValid, hal, hl]; omega) | (simp [tup, Fm.refValid, hal, hl]; done)

end Go.Proofs.Ytbippghgkbapnaa

namespace Go.Proofs.Ytbippghgkbapnaa
open Go Go.Eng Go.Proofs
def SameC (f n : Nat) : Prop := ∀ (x y : Tree) (wb : World) (G H : List Nat) (a a2 : Option Addr) (c c2 : Nat) (w : World), (Fm.rowT x).length ≤ n → rdT wb x G (tv x a c) → rdT wb y H (tv y a2 c2) → Ext wb w → Pure Try.prog f [tv x a c, tv y a2 c2] w (.bool (Fm.sameT x y))

theorem rSame_step (n : Nat) (hn : n ≤ 1099511627776) (hrec : SameC 16 n) : SameC 16 (n + 1) := by
  intro x y wb G H a a2 c c2 w hsz hr hr2 hE
  refine enter Try.func16 rfl Try.ntmps16 rfl (St.init _) ?_
  refine WC.seq ?_
  refine WC.region ?_
  refine WL.step ?_
  refine WL.boxN rfl rfl (fun b2 => ?_)
  refine WL.step ?_
  refine WL.boxN rfl rfl (fun b3 => ?_)
  refine WL.step ?_
  refine WL.assign rfl rfl ?_
  refine WL.nil ?_
  refine WQ.then_normal ?_
  refine WC.seq ?_
  refine WC.seq ?_
  refine WC.cutF [(26, .bool (!(x.op == y.op) || !(x.name == y.name) || !((x.kids.length : Int) == y.kids.length))), (2, pp b2), (3, pp b3)] (fun Q' hQ => ?_) ?_
  · skip
    refine WC.region ?_
    refine WL.step ?_
    refine WL.fieldAddr0 F.fld25_0 rfl rfl ?_
    refine WL.step ?_
    refine WL.loadP F.one5 rfl rfl (by repeat (first | exact List.Mem.head _ | apply List.Mem.tail)) rfl ?_
    refine WL.step ?_
    refine WL.fieldAddr0 F.fld25_0 rfl rfl ?_
    refine WL.step ?_
    refine WL.loadP F.one5 rfl rfl (by repeat (first | exact List.Mem.head _ | apply List.Mem.tail)) rfl ?_
    refine WL.step ?_
    refine WL.neI rfl rfl rfl ?_
    refine WL.step ?_
    refine WL.move rfl rfl ?_
    refine WA.splitB (i := 11) rfl (fun g11 => ?_) (fun g11 => ?_)
    · skip
      refine WL.step (WL.guardF rfl rfl rfl rfl rfl rfl ?_)
      refine WL.step (WL.guardF rfl rfl rfl rfl rfl rfl ?_)
      refine WL.step (WL.guardF rfl rfl rfl rfl rfl rfl ?_)
      refine WL.step (WL.guardF rfl rfl rfl rfl rfl rfl ?_)
      refine WL.step (WL.guardF rfl rfl rfl rfl rfl rfl ?_)
      refine WL.step ?_
      refine WL.pickT rfl rfl rfl ?_
      refine WL.step ?_
      refine WL.move rfl rfl ?_
      refine WL.step (WL.guardF rfl rfl rfl rfl rfl rfl ?_)
      refine WL.step (WL.guardF rfl rfl rfl rfl rfl rfl ?_)
      refine WL.step (WL.guardF rfl rfl rfl rfl rfl rfl ?_)
      refine WL.step (WL.guardF rfl rfl rfl rfl rfl rfl ?_)
      refine WL.step (WL.guardF rfl rfl rfl rfl rfl rfl ?_)
      refine WL.step (WL.guardF rfl rfl rfl rfl rfl rfl ?_)
      refine WL.step (WL.guardF rfl rfl rfl rfl rfl rfl ?_)
      refine WL.step ?_
      refine WL.pickT rfl rfl rfl ?_
      refine WL.nil ?_
      refine WQ.byCut hQ (subF_bool ?_ ⟨rfl, rfl, trivial⟩ rfl)
      simp_all [bne]
    · skip
      refine WL.step (WL.guardT rfl rfl rfl ?_)
      refine WL.fieldAddr0 F.fld25_1 rfl rfl ?_
      refine WL.step (WL.guardT rfl rfl rfl ?_)
      refine WL.loadP F.one9 rfl rfl (by repeat (first | exact List.Mem.head _ | apply List.Mem.tail)) rfl ?_
      refine WL.step (WL.guardT rfl rfl rfl ?_)
      refine WL.fieldAddr0 F.fld25_1 rfl rfl ?_
      refine WL.step (WL.guardT rfl rfl rfl ?_)
      refine WL.loadP F.one9 rfl rfl (by repeat (first | exact List.Mem.head _ | apply List.Mem.tail)) rfl ?_
      refine WL.step (WL.guardT rfl rfl rfl ?_)
      refine WL.neS rfl rfl rfl ?_
      refine WL.step ?_
      refine WL.pickF rfl rfl rfl ?_
      refine WL.step ?_
      refine WL.move rfl rfl ?_
      refine WA.splitB (i := 18) rfl (fun g18 => ?_) (fun g18 => ?_)
      · skip
        refine WL.step (WL.guardF rfl rfl rfl rfl rfl rfl ?_)
        refine WL.step (WL.guardF rfl rfl rfl rfl rfl rfl ?_)
        refine WL.step (WL.guardF rfl rfl rfl rfl rfl rfl ?_)
        refine WL.step (WL.guardF rfl rfl rfl rfl rfl rfl ?_)
        refine WL.step (WL.guardF rfl rfl rfl rfl rfl rfl ?_)
        refine WL.step (WL.guardF rfl rfl rfl rfl rfl rfl ?_)
        refine WL.step (WL.guardF rfl rfl rfl rfl rfl rfl ?_)
        refine WL.step ?_
        refine WL.pickT rfl rfl rfl ?_
        refine WL.nil ?_
        refine WQ.byCut hQ (subF_bool ?_ ⟨rfl, rfl, trivial⟩ rfl)
        simp_all [bne]
      · skip
        refine WL.step (WL.guardT rfl rfl rfl ?_)
        refine WL.fieldAddr0 F.fld25_2 rfl rfl ?_
        refine WL.step (WL.guardT rfl rfl rfl ?_)
        refine WL.loadP F.one23 rfl rfl (by repeat (first | exact List.Mem.head _ | apply List.Mem.tail)) rfl ?_
        refine WL.step (WL.guardT rfl rfl rfl ?_)
        refine WL.lenSl F.und23 rfl rfl ?_
        refine WL.step (WL.guardT rfl rfl rfl ?_)
        refine WL.fieldAddr0 F.fld25_2 rfl rfl ?_
        refine WL.step (WL.guardT rfl rfl rfl ?_)
        refine WL.loadP F.one23 rfl rfl (by repeat (first | exact List.Mem.head _ | apply List.Mem.tail)) rfl ?_
        refine WL.step (WL.guardT rfl rfl rfl ?_)
        refine WL.lenSl F.und23 rfl rfl ?_
        refine WL.step (WL.guardT rfl rfl rfl ?_)
        refine WL.neI rfl rfl rfl ?_
        refine WL.step ?_
        refine WL.pickF rfl rfl rfl ?_
        refine WL.nil ?_
        refine WQ.byCut hQ (subF_bool ?_ ⟨rfl, rfl, trivial⟩ rfl)
        simp_all [bne]
  refine WQ.then_normal ?_
  refine WC.cond rfl (fun h26 => ?_) (fun h26 => ?_)
  · skip
    have hne : Fm.sameT x y = false := by
      rw [Fm.sameT_mk]
      by_cases h1 : x.op = y.op
      · by_cases h2 : x.name = y.name
        · rw [Fm.sameL_len (by intro h3; simp [h1, h2, h3] at h26)]; simp
        · simp [h2]
      · simp [h1]
    refine WC.seq ?_
    refine WC.region ?_
    refine WL.step ?_
    refine WL.assign rfl rfl ?_
    refine WL.nil ?_
    refine WQ.then_normal ?_
    refine WC.ret ?_
    refine WQ.then_ret ?_
    exact WQ.ret (rs := [.tmp 4]) rfl (.tmp rfl .nil) (fun w hS => ⟨by rw [hne]; rfl, hS.drop.drop⟩)
  · skip
    have hop : x.op = y.op := by simp at h26; omega
    have hnm : x.name = y.name := by simp at h26; exact h26.1.2
    have hln : x.kids.length = y.kids.length := by simp at h26; omega
    have hkl := Fm.kids_le x
    have hsm : Fm.sameT x y = Fm.sameL x.kids y.kids := by rw [Fm.sameT_mk]; simp [hop, hnm]
    refine WC.skip ?_
    refine WQ.then_normal ?_
    refine WC.seq ?_
    refine WC.seq ?_
    refine WC.region ?_
    refine WL.step ?_
    refine WL.assign rfl rfl ?_
    refine WL.nil ?_
    refine WQ.then_normal ?_
    refine WC.block ?_
    refine WC.loop (α := Nat) (fun i => i ≤ x.kids.length ∧ Fm.sameL (x.kids.drop i) (y.kids.drop i) = Fm.sameL x.kids y.kids) (fun i => [(2, pp b2), (3, pp b3), (5, .int .i64 (i : Int))]) (fun _ => [pt b3 [Value.int .u8 y.op, .string (str y.name), .slice a2 y.kids.length c2] 25, pt b2 [Value.int .u8 x.op, .string (str x.name), .slice a x.kids.length c] 25]) (fun i => x.kids.length - i) (0) ?_ ?_ ?_ ?_
    · exact ⟨Nat.zero_le _, rfl⟩
    · exact ⟨rfl, rfl, rfl, trivial⟩
    · rfl
    rintro i ⟨hi, hsl⟩
    refine WC.seq ?_
    refine WC.seq ?_
    refine WC.region ?_
    refine WL.step ?_
    refine WL.move rfl rfl ?_
    refine WL.step ?_
    refine WL.fieldAddr0 F.fld25_2 rfl rfl ?_
    refine WL.step ?_
    refine WL.loadP F.one23 rfl rfl (by repeat (first | exact List.Mem.head _ | apply List.Mem.tail)) rfl ?_
    refine WL.step ?_
    refine WL.lenSl F.und23 rfl rfl ?_
    refine WL.step ?_
    refine WL.ltI rfl rfl rfl ?_
    refine WL.nil ?_
    refine WQ.then_normal ?_
    refine WC.cond rfl (fun h31 => ?_) (fun h31 => ?_)
    · skip
      have hlt : i < x.kids.length := by simpa using h31
      have hlt2 : i < y.kids.length := by omega
      obtain ⟨k, hk⟩ : ∃ k, x.kids[i]? = some k := ⟨_, List.getElem?_eq_getElem hlt⟩
      obtain ⟨l, hl⟩ : ∃ k, y.kids[i]? = some k := ⟨_, List.getElem?_eq_getElem hlt2⟩
      obtain ⟨b, off, F1, a1, c1, rfl, hb, hF1, hrk, hck⟩ := rdT_at hr hk
      obtain ⟨e, eoff, F3, a3, c3, rfl, hb3, hF3, hrl, hcl⟩ := rdT_at hr2 hl
      have hks := Fm.rowT_kid hk
      refine WC.skip ?_
      refine WQ.then_normal ?_
      refine WC.seq ?_
      refine WC.block ?_
      refine WC.seq ?_
      refine WC.drawsL (by kernel_rfl) (FactsOk.cons (ds := [10]) (LoadOk.one (t := 2) (off := 2) rfl (by repeat (first | exact List.Mem.head _ | apply List.Mem.tail)) rfl) (FactsOk.cons (ds := [10]) (LoadOk.by (Y := fun w => ∀ j v, [Value.int .u8 k.op, .string (str k.name), .slice a1 k.kids.length c1][j]? = some v → w.cell? ⟨b, off + i * 3 + j, none⟩ = some v) (fun w hS => fun j v hv => (hE.st hS).cell (hck j v hv))) (FactsOk.cons (ds := [10]) (LoadOk.one (t := 3) (off := 2) rfl (by repeat (first | exact List.Mem.head _ | apply List.Mem.tail)) rfl) (FactsOk.cons (ds := [10]) (LoadOk.by (Y := fun w => ∀ j v, [Value.int .u8 l.op, .string (str l.name), .slice a3 l.kids.length c3][j]? = some v → w.cell? ⟨e, eoff + i * 3 + j, none⟩ = some v) (fun w hS => fun j v hv => (hE.st hS).cell (hcl j v hv))) (FactsOk.nil))))) ?_
      refine WD.take (i := 0) rfl rfl rfl rfl (by kernel_rfl) (by kernel_rfl) (by kernel_rfl) (fun _ _ _ h => h) (by kernel_rfl) need_none (Yl.fieldAddr0 F.fld25_2 rfl) ?_
      refine WD.take (i := 1) rfl rfl rfl rfl (by kernel_rfl) (by kernel_rfl) (by kernel_rfl) (fun _ _ _ h => h) (by kernel_rfl) (need_at 0 12 rfl (by kernel_rfl)) (Yl.load1 F.one23 rfl) ?_
      refine WD.take (i := 2) rfl rfl rfl rfl (by kernel_rfl) (by kernel_rfl) (by kernel_rfl) (fun _ _ _ h => h) (by kernel_rfl) need_none (Yl.move rfl) ?_
      refine WD.take (i := 3) rfl rfl rfl rfl (by kernel_rfl) (by kernel_rfl) (by kernel_rfl) (fun _ _ _ h => h) (by kernel_rfl) need_none (Yl.indexAddr F.sl23 rfl rfl hlt) ?_
      refine WD.take (i := 4) rfl rfl rfl rfl (by kernel_rfl) (by kernel_rfl) (by kernel_rfl) (fun _ _ _ h => h) (by kernel_rfl) (need_at 1 12 rfl (by kernel_rfl)) (Yl.loadN F.agg25 rfl rfl) ?_
      refine WD.take (i := 5) rfl rfl rfl rfl (by kernel_rfl) (by kernel_rfl) (by kernel_rfl) (fun _ _ _ h => h) (by kernel_rfl) need_none (Yl.fieldAddr0 F.fld25_2 rfl) ?_
      refine WD.take (i := 6) rfl rfl rfl rfl (by kernel_rfl) (by kernel_rfl) (by kernel_rfl) (fun _ _ _ h => h) (by kernel_rfl) (need_at 2 12 rfl (by kernel_rfl)) (Yl.load1 F.one23 rfl) ?_
      refine WD.take (i := 7) rfl rfl rfl rfl (by kernel_rfl) (by kernel_rfl) (by kernel_rfl) (fun _ _ _ h => h) (by kernel_rfl) need_none (Yl.move rfl) ?_
      refine WD.take (i := 8) rfl rfl rfl rfl (by kernel_rfl) (by kernel_rfl) (by kernel_rfl) (fun _ _ _ h => h) (by kernel_rfl) need_none (Yl.indexAddr F.sl23 rfl rfl hlt2) ?_
      refine WD.take (i := 9) rfl rfl rfl rfl (by kernel_rfl) (by kernel_rfl) (by kernel_rfl) (fun _ _ _ h => h) (by kernel_rfl) (need_at 3 12 rfl (by kernel_rfl)) (Yl.loadN F.agg25 rfl rfl) ?_
      refine WD.one (i := 10) (by kernel_rfl) rfl ?_
      refine WL.callV F.fun16 rfl rfl (fun w hS => hrec k l wb F1 F3 a1 a3 c1 c3 w (by omega) hrk hrl (hE.st hS)) ?_
      refine WD.on (closed_of (by kernel_rfl)) (fun w hS => Sx.gone rfl (Sx.gone rfl (Sx.gone rfl (Sx.gone rfl (Sx.none))))) ?_
      refine WD.take (i := 11) rfl rfl rfl rfl (by kernel_rfl) (by kernel_rfl) (by kernel_rfl) (fun _ _ _ h => h) (by kernel_rfl) need_none (Yl.not rfl) ?_
      refine WD.done (by kernel_rfl) ?_
      refine WQ.then_normal ?_
      refine WC.cond rfl (fun h45 => ?_) (fun h45 => ?_)
      · skip
        have hne : Fm.sameT x y = false := by
          rw [hsm, ← hsl, Fm.sameL_drop hk hl, show Fm.sameT k l = false by simpa using h45]; rfl
        refine WC.seq ?_
        refine WC.region ?_
        refine WL.step ?_
        refine WL.assign rfl rfl ?_
        refine WL.nil ?_
        refine WQ.then_normal ?_
        refine WC.ret ?_
        refine WQ.block_ret ?_
        refine WQ.then_ret ?_
        refine WQ.then_ret ?_
        refine WQ.block_ret ?_
        refine WQ.then_ret ?_
        exact WQ.ret (rs := [.tmp 4]) rfl (.tmp rfl .nil) (fun w hS => ⟨by rw [hne]; rfl, hS.drop.drop⟩)
      · skip
        refine WC.skip ?_
        refine WQ.block_normal ?_
        refine WQ.then_normal ?_
        refine WC.region ?_
        refine WL.step ?_
        refine WL.move rfl rfl ?_
        refine WL.step ?_
        refine WL.add rfl rfl rfl ⟨by omega, by omega⟩ ?_
        refine WL.step ?_
        refine WL.assign rfl rfl ?_
        refine WL.nil ?_
        refine WQ.back (i + 1) ?_ ?_ ?_ ?_
        · exact ⟨by omega, by rw [Fm.sameL_drop hk hl, show Fm.sameT k l = true by simpa using h45, Bool.true_and] at hsl; exact hsl⟩
        · omega
        · exact ⟨rfl, rfl, rfl, trivial⟩
        · rfl
    · skip
      have hie : i = x.kids.length := by simp at h31; omega
      subst hie
      have hst : Fm.sameT x y = true := by rw [hsm, ← hsl, List.drop_length, hln, List.drop_length]; rfl
      refine WC.exit ?_
      refine WQ.then_exit ?_
      refine WQ.then_exit ?_
      refine WQ.block_exit ?_
      refine WQ.then_normal ?_
      refine WC.seq ?_
      refine WC.region ?_
      refine WL.step ?_
      refine WL.assign rfl rfl ?_
      refine WL.nil ?_
      refine WQ.then_normal ?_
      refine WC.ret ?_
      exact WQ.ret (rs := [.tmp 4]) rfl (.tmp rfl .nil) (fun w hS => ⟨by rw [hst]; rfl, hS.drop.drop⟩)

theorem rSame_c : ∀ n, n ≤ 1099511627776 → SameC 16 n
  | 0, _ => fun x y wb G H a a2 c c2 w hsz _ _ _ => by rw [Fm.rowT_eq] at hsz; simp at hsz
  | n + 1, h => rSame_step n (by omega) (rSame_c n (by omega))

theorem tkc_at {T : List Fm.Tk} {i : Nat} {t : Fm.Tk} (h : T[i]? = some t) : (tkc T)[i * 2]? = some (.int .i64 (t.1 : Int)) ∧ (tkc T)[i * 2 + 1]? = some (.string (str t.2)) := by
  induction T generalizing i with
  | nil => simp at h
  | cons u r ih =>
    have e : tkc (u :: r) = [.int .i64 (u.1 : Int), .string (str u.2)] ++ tkc r := rfl
    cases i with
    | zero => simp at h; subst h; rw [e]; exact ⟨rfl, rfl⟩
    | succ i =>
      obtain ⟨h1, h2⟩ := ih (i := i) (by simpa using h)
      rw [e]
      refine ⟨?_, ?_⟩
      · rw [List.getElem?_append_right (by simp; omega)]
        rw [show (i + 1) * 2 - [Value.int .i64 (u.1 : Int), .string (str u.2)].length = i * 2 by simp; omega]; exact h1
      · rw [List.getElem?_append_right (by simp; omega)]
        rw [show (i + 1) * 2 + 1 - [Value.int .i64 (u.1 : Int), .string (str u.2)].length = i * 2 + 1 by simp; omega]; exact h2
theorem RdTk.of_row {w : World} {T : List Fm.Tk} {a : Option Addr} {c : Nat} (h : (rowc (.slice a T.length c) T.length 86 2 (tkc T)).ok w) : RdTk w T a := fun i t ht => by
  have hlt := (List.getElem?_eq_some_iff.1 ht).1
  obtain ⟨g, hg, _, _⟩ := rowc_addr h (by omega)
  subst hg
  obtain ⟨h1, h2⟩ := tkc_at ht
  exact ⟨g, 0, rfl, by rw [Nat.zero_add]; exact rowc_cells h h1, by rw [Nat.zero_add]; exact rowc_cells h h2⟩
/-- What the reference's Parse answers. -/
def refParse (text : List UInt8) : Tree × Int × Int := ((Fm.top text).1, ((Fm.top text).2.1 : Int), (Fm.top text).2.2)

theorem rParse_c (text : List UInt8) (w : World) : Calls Try.prog 15 [.string (str text)].toArray w fun e w' => ∃ y : List Nat × Option Addr × Nat, e = .returned (.tuple #[tv (refParse text).1 y.2.1 y.2.2, .int .i64 (refParse text).2.1, .int .i64 (refParse text).2.2]) ∧ St w [] [own y.1 (refParse text).1 (tv (refParse text).1 y.2.1 y.2.2)] w' := by
  obtain ⟨⟨R1, R2, R3⟩, hR⟩ : ∃ R, R = refParse text := ⟨_, rfl⟩
  rw [← hR]
  dsimp only
  refine enter Try.func15 rfl Try.ntmps15 rfl (St.init _) ?_
  refine WC.seq ?_
  refine WC.region ?_
  refine WL.step ?_
  refine WL.alloc F.zero25 rfl (fun b2 => ?_)
  refine WL.step ?_
  refine WL.assign rfl rfl ?_
  refine WL.step ?_
  refine WL.assign rfl rfl ?_
  refine WL.nil ?_
  refine WQ.then_normal ?_
  refine WC.seq ?_
  refine WC.seq ?_
  refine WC.region ?_
  refine WL.step ?_
  refine WL.move rfl rfl ?_
  refine WL.step ?_
  refine WL.lenS F.und9 rfl rfl ?_
  refine WL.step ?_
  refine WL.gtI rfl rfl rfl ?_
  refine WL.nil ?_
  refine WQ.then_normal ?_
  refine WC.cond rfl (fun h11 => ?_) (fun h11 => ?_)
  · skip
    have hlong : 65536 < text.length := by simp at h11; omega
    have heq : (Fm.zeroTree, (65536 : Int), (5 : Int)) = (R1, R2, R3) := by rw [hR, refParse, Fm.top, if_pos hlong]; rfl
    refine WC.seq ?_
    refine WC.region ?_
    refine WL.step ?_
    refine WL.build F.stT25 rfl (by repeat (first | exact Built.nil | apply Built.one rfl rfl (by repeat constructor) | apply Built.agg rfl rfl (by repeat constructor))) rfl ?_
    refine WL.step ?_
    refine WL.storeN F.agg25 rfl rfl rfl (by simp [Value.oneCell']) (by repeat (first | exact Upd.here | apply Upd.there)) (by repeat constructor) ?_
    refine WL.step ?_
    refine WL.assign rfl rfl ?_
    refine WL.step ?_
    refine WL.assign rfl rfl ?_
    refine WL.nil ?_
    refine WQ.then_normal ?_
    refine WC.ret ?_
    refine WQ.then_ret ?_
    refine WQ.ret (rs := [.cell 2 25, .tmp 3, .tmp 4]) rfl (.cellN F.agg25 rfl (by repeat (first | exact List.Mem.head _ | apply List.Mem.tail)) rfl (.tmp rfl (.tmp rfl .nil))) (fun w hS => ?_)
    simp only [Prod.mk.injEq] at heq
    rw [← heq.1, ← heq.2.1, ← heq.2.2]
    exact ⟨([], none, 0), rfl, (St.node0 0 [] hS).one1⟩
  · skip
    have hshort : ¬ 65536 < text.length := by simp at h11; omega
    obtain ⟨m, q, hq, heq⟩ := Fm.ref_top text hshort
    rw [Fm.scan_all] at hq heq
    obtain ⟨⟨T, E⟩, hTE⟩ : ∃ TE, TE = Fm.scanF text (text.length + 1) 0 := ⟨_, rfl⟩
    rw [← hTE] at hq heq
    dsimp only at hq heq
    have hTl : T.length ≤ 65537 := by have h9 := Fm.scan_len (text := text) (text.length + 1) 0; rw [← hTE] at h9; dsimp only at h9; omega
    obtain ⟨hq1, hq2, hq3⟩ : 0 ≤ q.2.1 ∧ q.2.1 ≤ T.length ∧ (Fm.rowT q.1).length ≤ 2 * (q.2.1 - 0) + 1 := Fm.rp_size m .choice (0, false) q (Nat.zero_le _) hq
    have heq : Fm.refTop text T E q = (R1, R2, R3) := heq.trans hR.symm
    refine WC.skip ?_
    refine WQ.then_normal ?_
    refine WC.seq ?_
    refine WC.region ?_
    refine WL.step ?_
    refine WL.move rfl rfl ?_
    refine WL.step ?_
    refine WL.callC (β := Option Addr × Nat) (res := fun x => .tuple #[.slice x.1 T.length x.2, .int .i64 E]) (cs := fun x => [rowc (.slice x.1 T.length x.2) T.length 86 2 (tkc T)]) (Cs := []) (O' := []) F.fun48 (fun d h => by cases h; rfl) rfl (List.Perm.refl _) (by simp) (by simp) (fun w hS _ => Tokens_c text (by omega) T E hTE.symm w) (fun x15 => ?_)
    obtain ⟨a, c⟩ := x15
    refine WL.step ?_
    refine WL.move rfl rfl ?_
    refine WL.step ?_
    refine WL.extract rfl rfl rfl ?_
    refine WL.step ?_
    refine WL.extract rfl rfl rfl ?_
    refine WL.step ?_
    refine WL.assign rfl rfl ?_
    refine WL.step ?_
    refine WL.assign rfl rfl ?_
    refine WL.nil ?_
    refine WQ.then_normal ?_
    refine WC.seq ?_
    refine WC.region ?_
    refine WL.step ?_
    refine WL.move rfl rfl ?_
    refine WL.step ?_
    refine WL.build F.stT82 rfl (by repeat (first | exact Built.nil | apply Built.one rfl rfl (by repeat constructor) | apply Built.agg rfl rfl (by repeat constructor))) rfl ?_
    refine WL.step ?_
    refine WL.callC (β := List Nat × Option Addr × Nat) (res := fun y => .tuple #[tv q.1 y.2.1 y.2.2, rdv T a c q.2]) (cs := fun y => [own y.1 q.1 (tv q.1 y.2.1 y.2.2)]) (Cs := []) (O' := []) F.fun49 (fun d h => by cases h; rfl) rfl (List.Perm.refl _) (by simp) (by simp) (fun w hS _ => (reader_all T a c (by omega) m).2.2.2 (0, false) q w (RdTk.of_row (hS.ok (rowc (.slice a T.length c) T.length 86 2 (tkc T)) (by repeat (first | exact List.Mem.head _ | apply List.Mem.tail)))) hq) (fun y21 => ?_)
    refine WL.step ?_
    refine WL.move rfl rfl ?_
    refine WL.step ?_
    refine WL.extract rfl rfl rfl ?_
    refine WL.step ?_
    refine WL.extract rfl rfl rfl ?_
    refine WL.step ?_
    refine WL.alloc F.zero25 rfl (fun b7 => ?_)
    refine WL.step ?_
    refine WL.alloc F.zero82 rfl (fun b8 => ?_)
    refine WL.step ?_
    refine WL.storeN F.agg25 rfl rfl rfl (by simp [Value.oneCell']) (by repeat (first | exact Upd.here | apply Upd.there)) (by repeat constructor) ?_
    refine WL.step ?_
    refine WL.storeN F.agg82 rfl rfl rfl (by simp [Value.oneCell']) (by repeat (first | exact Upd.here | apply Upd.there)) (by repeat constructor) ?_
    refine WL.nil ?_
    refine WQ.then_normal ?_
    refine WC.seq ?_
    refine WC.seq ?_
    refine WC.cutF [(41, .bool (decide (q.2.1 < T.length) && (q.2.2 || !((T.getD q.2.1 (0, [])).2 == [])))), (0, .string (str text)), (2, pp b2), (5, .slice a T.length c), (6, .int .i64 E), (7, pp b7), (8, pp b8)] (fun Q' hQ => ?_) ?_
    · skip
      refine WC.region ?_
      refine WL.step ?_
      refine WL.fieldAddr0 F.fld82_1 rfl rfl ?_
      refine WL.step ?_
      refine WL.loadP F.one3 rfl rfl (by repeat (first | exact List.Mem.head _ | apply List.Mem.tail)) rfl ?_
      refine WL.step ?_
      refine WL.move rfl rfl ?_
      refine WL.step ?_
      refine WL.lenSl F.und78 rfl rfl ?_
      refine WL.step ?_
      refine WL.ltI rfl rfl rfl ?_
      refine WL.step ?_
      refine WL.move rfl rfl ?_
      refine WA.splitB (i := 29) rfl (fun h29 => ?_) (fun h29 => ?_)
      · skip
        refine WL.step (WL.guardT rfl rfl rfl ?_)
        refine WL.fieldAddr0 F.fld82_2 rfl rfl ?_
        refine WL.step (WL.guardT rfl rfl rfl ?_)
        refine WL.loadP F.one4 rfl rfl (by repeat (first | exact List.Mem.head _ | apply List.Mem.tail)) rfl ?_
        refine WL.step (WL.guardT rfl rfl rfl ?_)
        refine WL.move rfl rfl ?_
        refine WA.splitB (i := 32) rfl (fun h32 => ?_) (fun h32 => ?_)
        · skip
          refine WL.step (WL.guardF rfl rfl rfl rfl rfl rfl ?_)
          refine WL.step (WL.guardF rfl rfl rfl rfl rfl rfl ?_)
          refine WL.step (WL.guardF rfl rfl rfl rfl rfl rfl ?_)
          refine WL.step (WL.guardF rfl rfl rfl rfl rfl rfl ?_)
          refine WL.step (WL.guardF rfl rfl rfl rfl rfl rfl ?_)
          refine WL.step (WL.guardF rfl rfl rfl rfl rfl rfl ?_)
          refine WL.step (WL.guardF rfl rfl rfl rfl rfl rfl ?_)
          refine WL.step (WL.guardT rfl rfl rfl ?_)
          refine WL.pickT rfl rfl rfl ?_
          refine WL.step ?_
          refine WL.pickT rfl rfl rfl ?_
          refine WL.nil ?_
          refine WQ.byCut hQ (subF_bool ?_ ⟨rfl, rfl, rfl, rfl, rfl, rfl, trivial⟩ rfl)
          first | (have h9 : ¬ q.2.1 < T.length := (by simp at h29; omega); simp [h9]; done) | (have h9 : q.2.1 < T.length := (by simp at h29; omega); simp [h9, h32]; done) | (have h9 : q.2.1 < T.length := (by simp at h29; omega); rw [hgd]; simp [h9, h32]; done)
        · skip
          have hlt : q.2.1 < T.length := by simp at h29; omega
          obtain ⟨tk, htk⟩ : ∃ t, T[q.2.1]? = some t := ⟨_, List.getElem?_eq_getElem hlt⟩
          have hgd : T.getD q.2.1 (0, []) = tk := by rw [List.getD_eq_getElem?_getD, htk]; rfl
          refine WA.know (φ := ∃ g, a = some ⟨g, 0, none⟩ ∧ T.length = T.length ∧ T.length ≤ c) (fun w hS => rowc_addr (hS.ok (rowc (.slice a T.length c) T.length 86 2 (tkc T)) (by repeat (first | exact List.Mem.head _ | apply List.Mem.tail))) (by omega)) (fun ⟨g, hg, _, _⟩ => ?_)
          subst hg
          refine WL.step (WL.guardT rfl rfl rfl ?_)
          refine WL.move rfl rfl ?_
          refine WL.step (WL.guardT rfl rfl rfl ?_)
          refine WL.fieldAddr0 F.fld82_1 rfl rfl ?_
          refine WL.step (WL.guardT rfl rfl rfl ?_)
          refine WL.loadP F.one3 rfl rfl (by repeat (first | exact List.Mem.head _ | apply List.Mem.tail)) rfl ?_
          refine WL.step (WL.guardT rfl rfl rfl ?_)
          refine WL.indexAddr (i := q.2.1) F.sl78 rfl rfl rfl hlt ?_
          refine WL.step (WL.guardT rfl rfl rfl ?_)
          refine WL.fieldAddr F.fld86_1 rfl rfl ?_
          refine WL.step (WL.guardT rfl rfl rfl ?_)
          refine WL.load1 F.one9 rfl rfl (v := .string (str tk.2)) (fun w hS => by rw [Nat.zero_add]; exact rowc_cells (hS.ok (rowc (.slice (some ⟨g, 0, none⟩) T.length c) T.length 86 2 (tkc T)) (by repeat (first | exact List.Mem.head _ | apply List.Mem.tail))) (tkc_at htk).2) ?_
          refine WL.step (WL.guardT rfl rfl rfl ?_)
          refine WL.neS rfl rfl rfl ?_
          refine WL.step (WL.guardT rfl rfl rfl ?_)
          refine WL.pickF rfl rfl rfl ?_
          refine WL.step ?_
          refine WL.pickT rfl rfl rfl ?_
          refine WL.nil ?_
          refine WQ.byCut hQ (subF_bool ?_ ⟨rfl, rfl, rfl, rfl, rfl, rfl, trivial⟩ rfl)
          first | (have h9 : ¬ q.2.1 < T.length := (by simp at h29; omega); simp [h9]; done) | (have h9 : q.2.1 < T.length := (by simp at h29; omega); simp [h9, h32]; done) | (have h9 : q.2.1 < T.length := (by simp at h29; omega); rw [hgd]; simp [h9, h32]; done)
      · skip
        refine WL.step (WL.guardF rfl rfl rfl rfl rfl rfl ?_)
        refine WL.step (WL.guardF rfl rfl rfl rfl rfl rfl ?_)
        refine WL.step (WL.guardF rfl rfl rfl rfl rfl rfl ?_)
        refine WL.step (WL.guardU rfl rfl rfl rfl rfl ?_)
        refine WL.step (WL.guardU rfl rfl rfl rfl rfl ?_)
        refine WL.step (WL.guardU rfl rfl rfl rfl rfl ?_)
        refine WL.step (WL.guardU rfl rfl rfl rfl rfl ?_)
        refine WL.step (WL.guardU rfl rfl rfl rfl rfl ?_)
        refine WL.step (WL.guardU rfl rfl rfl rfl rfl ?_)
        refine WL.step (WL.guardU rfl rfl rfl rfl rfl ?_)
        refine WL.step (WL.guardF rfl rfl rfl rfl rfl rfl ?_)
        refine WL.step ?_
        refine WL.pickF rfl rfl rfl ?_
        refine WL.nil ?_
        refine WQ.byCut hQ (subF_bool ?_ ⟨rfl, rfl, rfl, rfl, rfl, rfl, trivial⟩ rfl)
        first | (have h9 : ¬ q.2.1 < T.length := (by simp at h29; omega); simp [h9]; done) | (have h9 : q.2.1 < T.length := (by simp at h29; omega); simp [h9, h32]; done) | (have h9 : q.2.1 < T.length := (by simp at h29; omega); rw [hgd]; simp [h9, h32]; done)
    refine WQ.then_normal ?_
    refine WC.cond rfl (fun h41 => ?_) (fun h41 => ?_)
    · skip
      have hb : q.2.1 < T.length ∧ (q.2.2 = true ∨ (T.getD q.2.1 (0, [])).2 ≠ []) := by simpa using h41
      obtain ⟨hlt, hbw⟩ := hb
      rw [Fm.refTop, if_pos ⟨hlt, hbw⟩] at heq
      obtain ⟨tk, htk⟩ : ∃ t, T[q.2.1]? = some t := ⟨_, List.getElem?_eq_getElem hlt⟩
      have hgd : T.getD q.2.1 (0, []) = tk := by rw [List.getD_eq_getElem?_getD, htk]; rfl
      rw [hgd] at heq
      refine WC.know (φ := ∃ g, a = some ⟨g, 0, none⟩ ∧ T.length = T.length ∧ T.length ≤ c) (fun w hS => rowc_addr (hS.ok (rowc (.slice a T.length c) T.length 86 2 (tkc T)) (by repeat (first | exact List.Mem.head _ | apply List.Mem.tail))) (by omega)) (fun ⟨g, hg, _, _⟩ => ?_)
      subst hg
      refine WC.seq ?_
      refine WC.drawsL (by kernel_rfl) (FactsOk.cons (ds := []) (LoadOk.one (t := 8) (off := 1) rfl (by repeat (first | exact List.Mem.head _ | apply List.Mem.tail)) rfl) (FactsOk.cons (ds := []) (LoadOk.by (Y := fun w => w.cell? ⟨g, 0 + q.2.1 * 2 + 0, none⟩ = some (.int .i64 (tk.1 : Int))) (fun w hS => by rw [Nat.zero_add]; exact rowc_cells (hS.ok (rowc (.slice (some ⟨g, 0, none⟩) T.length c) T.length 86 2 (tkc T)) (by repeat (first | exact List.Mem.head _ | apply List.Mem.tail))) (tkc_at htk).1)) (FactsOk.nil))) ?_
      refine WD.take (i := 0) rfl rfl rfl rfl (by kernel_rfl) (by kernel_rfl) (by kernel_rfl) (fun _ _ _ h => h) (by kernel_rfl) need_none (Yl.build F.stT25 rfl (by repeat (first | exact Built.nil | apply Built.one rfl rfl (by repeat constructor) | apply Built.agg rfl rfl (by repeat constructor)))) ?_
      refine WD.take (i := 1) rfl rfl rfl rfl (by kernel_rfl) (by kernel_rfl) (by kernel_rfl) (fun _ _ _ h => h) (by kernel_rfl) need_none (Yl.move rfl) ?_
      refine WD.take (i := 2) rfl rfl rfl rfl (by kernel_rfl) (by kernel_rfl) (by kernel_rfl) (fun _ _ _ h => h) (by kernel_rfl) need_none (Yl.fieldAddr0 F.fld82_1 rfl) ?_
      refine WD.take (i := 3) rfl rfl rfl rfl (by kernel_rfl) (by kernel_rfl) (by kernel_rfl) (fun _ _ _ h => h) (by kernel_rfl) (need_at 0 10 rfl (by kernel_rfl)) (Yl.load1 F.one3 rfl) ?_
      refine WD.take (i := 4) rfl rfl rfl rfl (by kernel_rfl) (by kernel_rfl) (by kernel_rfl) (fun _ _ _ h => h) (by kernel_rfl) need_none (Yl.indexAddr (i := q.2.1) F.sl78 rfl rfl hlt) ?_
      refine WD.take (i := 5) rfl rfl rfl rfl (by kernel_rfl) (by kernel_rfl) (by kernel_rfl) (fun _ _ _ h => h) (by kernel_rfl) need_none (Yl.fieldAddr F.fld86_0 rfl) ?_
      refine WD.take (i := 6) rfl rfl rfl rfl (by kernel_rfl) (by kernel_rfl) (by kernel_rfl) (fun _ _ _ h => h) (by kernel_rfl) (need_at 1 10 rfl (by kernel_rfl)) (Yl.load1 F.one3 rfl) ?_
      refine WD.one (i := 7) (by kernel_rfl) rfl ?_
      refine WL.storeN F.agg25 rfl rfl rfl (by simp [Value.oneCell']) (by repeat (first | exact Upd.here | apply Upd.there)) (by repeat constructor) ?_
      refine WD.on (closed_of (by kernel_rfl)) (fun w hS => Sx.keep (hS.cell (by repeat (first | exact List.Mem.head _ | apply List.Mem.tail)) rfl) (Sx.keep (by rw [Nat.zero_add]; exact rowc_cells (hS.ok (rowc (.slice (some ⟨g, 0, none⟩) T.length c) T.length 86 2 (tkc T)) (by repeat (first | exact List.Mem.head _ | apply List.Mem.tail))) (tkc_at htk).1) (Sx.none))) ?_
      refine WD.take (i := 8) rfl rfl rfl rfl (by kernel_rfl) (by kernel_rfl) (by kernel_rfl) (fun _ _ _ h => h) (by kernel_rfl) need_none (Yl.assign rfl) ?_
      refine WD.take (i := 9) rfl rfl rfl rfl (by kernel_rfl) (by kernel_rfl) (by kernel_rfl) (fun _ _ _ h => h) (by kernel_rfl) need_none (Yl.assign rfl) ?_
      refine WD.done (by kernel_rfl) ?_
      refine WQ.then_normal ?_
      refine WC.ret ?_
      refine WQ.then_ret ?_
      refine WQ.ret (rs := [.cell 2 25, .tmp 3, .tmp 4]) rfl (.cellN F.agg25 rfl (by repeat (first | exact List.Mem.head _ | apply List.Mem.tail)) rfl (.tmp rfl (.tmp rfl .nil))) (fun w hS => ?_)
      simp only [Prod.mk.injEq] at heq
      rw [← heq.1, ← heq.2.1, ← heq.2.2]
      exact ⟨([], none, 0), rfl, (St.node0 0 [] hS).one1⟩
    · skip
      have hb : ¬ (q.2.1 < T.length ∧ (q.2.2 = true ∨ (T.getD q.2.1 (0, [])).2 ≠ [])) := by intro hb; have h9 : (decide (q.2.1 < T.length) && (q.2.2 || !((T.getD q.2.1 (0, [])).2 == []))) = true := (by simpa using hb); rw [h9] at h41; cases h41
      rw [Fm.refTop, if_neg hb] at heq
      refine WC.skip ?_
      refine WQ.then_normal ?_
      refine WC.seq ?_
      refine WC.seq ?_
      refine WC.region ?_
      refine WL.step ?_
      refine WL.move rfl rfl ?_
      refine WL.step ?_
      refine WL.geI rfl rfl rfl ?_
      refine WL.nil ?_
      refine WQ.then_normal ?_
      refine WC.cond rfl (fun h50 => ?_) (fun h50 => ?_)
      · skip
        have hE0 : 0 ≤ E := by simpa using h50
        rw [if_pos hE0] at heq
        refine WC.seq ?_
        refine WC.region ?_
        refine WL.step ?_
        refine WL.build F.stT25 rfl (by repeat (first | exact Built.nil | apply Built.one rfl rfl (by repeat constructor) | apply Built.agg rfl rfl (by repeat constructor))) rfl ?_
        refine WL.step ?_
        refine WL.move rfl rfl ?_
        refine WL.step ?_
        refine WL.storeN F.agg25 rfl rfl rfl (by simp [Value.oneCell']) (by repeat (first | exact Upd.here | apply Upd.there)) (by repeat constructor) ?_
        refine WL.step ?_
        refine WL.assign rfl rfl ?_
        refine WL.step ?_
        refine WL.assign rfl rfl ?_
        refine WL.nil ?_
        refine WQ.then_normal ?_
        refine WC.ret ?_
        refine WQ.then_ret ?_
        refine WQ.ret (rs := [.cell 2 25, .tmp 3, .tmp 4]) rfl (.cellN F.agg25 rfl (by repeat (first | exact List.Mem.head _ | apply List.Mem.tail)) rfl (.tmp rfl (.tmp rfl .nil))) (fun w hS => ?_)
        simp only [Prod.mk.injEq] at heq
        rw [← heq.1, ← heq.2.1, ← heq.2.2]
        exact ⟨([], none, 0), rfl, (St.node0 0 [] hS).one1⟩
      · skip
        have hE0 : ¬ 0 ≤ E := by simpa using h50
        rw [if_neg hE0] at heq
        refine WC.skip ?_
        refine WQ.then_normal ?_
        refine WC.seq ?_
        refine WC.seq ?_
        refine WC.region ?_
        refine WL.step ?_
        refine WL.loadW F.agg25 rfl rfl (by repeat (first | exact List.Mem.head _ | apply List.Mem.tail)) rfl ?_
        refine WL.step ?_
        refine WL.callV F.fun20 rfl rfl (fun w hS => rvalid_c q.1 w y21.1 _ _ w (by omega) (hS.ok (own y21.1 q.1 (tv q.1 y21.2.1 y21.2.2)) (by repeat (first | exact List.Mem.head _ | apply List.Mem.tail))).2 (Ext.refl w)) ?_
        refine WL.step ?_
        refine WL.not rfl rfl ?_
        refine WL.nil ?_
        refine WQ.then_normal ?_
        refine WC.cond rfl (fun h55 => ?_) (fun h55 => ?_)
        · skip
          have hv : ¬ Fm.validB q.1 = true := by rw [← Fm.refValid_eq]; simpa using h55
          rw [if_neg hv] at heq
          refine WC.seq ?_
          refine WC.region ?_
          refine WL.step ?_
          refine WL.build F.stT25 rfl (by repeat (first | exact Built.nil | apply Built.one rfl rfl (by repeat constructor) | apply Built.agg rfl rfl (by repeat constructor))) rfl ?_
          refine WL.step ?_
          refine WL.move rfl rfl ?_
          refine WL.step ?_
          refine WL.lenS F.und9 rfl rfl ?_
          refine WL.step ?_
          refine WL.storeN F.agg25 rfl rfl rfl (by simp [Value.oneCell']) (by repeat (first | exact Upd.here | apply Upd.there)) (by repeat constructor) ?_
          refine WL.step ?_
          refine WL.assign rfl rfl ?_
          refine WL.step ?_
          refine WL.assign rfl rfl ?_
          refine WL.nil ?_
          refine WQ.then_normal ?_
          refine WC.ret ?_
          refine WQ.then_ret ?_
          refine WQ.ret (rs := [.cell 2 25, .tmp 3, .tmp 4]) rfl (.cellN F.agg25 rfl (by repeat (first | exact List.Mem.head _ | apply List.Mem.tail)) rfl (.tmp rfl (.tmp rfl .nil))) (fun w hS => ?_)
          simp only [Prod.mk.injEq] at heq
          rw [← heq.1, ← heq.2.1, ← heq.2.2]
          exact ⟨([], none, 0), rfl, (St.node0 0 [] hS).one1⟩
        · skip
          have hv : Fm.validB q.1 = true := by rw [← Fm.refValid_eq]; simpa using h55
          rw [if_pos hv] at heq
          refine WC.skip ?_
          refine WQ.then_normal ?_
          refine WC.seq ?_
          refine WC.region ?_
          refine WL.step ?_
          refine WL.loadW F.agg25 rfl rfl (by repeat (first | exact List.Mem.head _ | apply List.Mem.tail)) rfl ?_
          refine WL.step ?_
          refine WL.storeN F.agg25 rfl rfl rfl (by simp [Value.oneCell']) (by repeat (first | exact Upd.here | apply Upd.there)) (by repeat constructor) ?_
          refine WL.step ?_
          refine WL.assign rfl rfl ?_
          refine WL.step ?_
          refine WL.assign rfl rfl ?_
          refine WL.nil ?_
          refine WQ.then_normal ?_
          refine WC.ret ?_
          refine WQ.ret (rs := [.cell 2 25, .tmp 3, .tmp 4]) rfl (.cellN F.agg25 rfl (by repeat (first | exact List.Mem.head _ | apply List.Mem.tail)) rfl (.tmp rfl (.tmp rfl .nil))) (fun w hS => ?_)
          simp only [Prod.mk.injEq] at heq
          rw [← heq.1, ← heq.2.1, ← heq.2.2]
          exact ⟨y21, rfl, ((St.pick hS (c := own y21.1 q.1 (tv q.1 y21.2.1 y21.2.2)) (by repeat (first | exact Rem.here | apply Rem.there)))).one1⟩

end Go.Proofs.Ytbippghgkbapnaa

namespace Go.Proofs.Ytbippghgkbapnaa
open Go Go.Eng Go.Proofs
def CntC (lv : Nat) : Prop := ∀ (t : Tree) (left : Int) (wb : World) (G : List Nat) (a : Option Addr) (c : Nat) (w : World), -1 ≤ left → left ≤ 1200 → rdT wb t G (tv t a c) → Ext wb w → Pure Try.prog 50 [tv t a c, .int .i64 (lv : Int), .int .i64 left] w (.int .i64 (Fm.cntT lv left t))

theorem count_step (lv : Nat) (hlv : lv ≤ 1000) (hrec : 0 < lv → CntC (lv - 1)) : CntC lv := by
  intro t left wb G a c w hl0 hl1 hr hE
  refine enter Try.func50 rfl Try.ntmps50 rfl (St.init _) ?_
  refine WC.seq ?_
  refine WC.region ?_
  refine WL.step ?_
  refine WL.boxN rfl rfl (fun b3 => ?_)
  refine WL.step ?_
  refine WL.assign rfl rfl ?_
  refine WL.nil ?_
  refine WQ.then_normal ?_
  refine WC.seq ?_
  refine WC.region ?_
  refine WL.step ?_
  refine WL.move rfl rfl ?_
  refine WL.step ?_
  refine WL.sub rfl rfl rfl ⟨by omega, by omega⟩ ?_
  refine WL.step ?_
  refine WL.assign rfl rfl ?_
  refine WL.nil ?_
  refine WQ.then_normal ?_
  refine WC.seq ?_
  refine WC.seq ?_
  refine WC.cutF [(21, .bool (decide (lv = 0) || decide (left - 1 < 0) || decide (100 < t.name.length))), (1, .int .i64 (lv : Int)), (2, .int .i64 (left - 1)), (3, pp b3)] (fun Q' hQ => ?_) ?_
  · skip
    refine WC.region ?_
    refine WL.step ?_
    refine WL.move rfl rfl ?_
    refine WL.step ?_
    refine WL.eqI rfl rfl rfl ?_
    refine WL.step ?_
    refine WL.move rfl rfl ?_
    refine WA.splitB (i := 12) rfl (fun g12 => ?_) (fun g12 => ?_)
    · skip
      refine WL.step (WL.guardF rfl rfl rfl rfl rfl rfl ?_)
      refine WL.step (WL.guardF rfl rfl rfl rfl rfl rfl ?_)
      refine WL.step ?_
      refine WL.pickT rfl rfl rfl ?_
      refine WL.step ?_
      refine WL.move rfl rfl ?_
      refine WL.step (WL.guardF rfl rfl rfl rfl rfl rfl ?_)
      refine WL.step (WL.guardF rfl rfl rfl rfl rfl rfl ?_)
      refine WL.step (WL.guardF rfl rfl rfl rfl rfl rfl ?_)
      refine WL.step (WL.guardF rfl rfl rfl rfl rfl rfl ?_)
      refine WL.step ?_
      refine WL.pickT rfl rfl rfl ?_
      refine WL.nil ?_
      refine WQ.byCut hQ (subF_bool ?_ ⟨rfl, rfl, rfl, trivial⟩ rfl)
      have e0 : ((lv : Int) == 0) = decide (lv = 0) := by rw [Bool.eq_iff_iff]; simp
      have e1 : decide ((100 : Int) < (t.name.length : Int)) = decide (100 < t.name.length) := by rw [Bool.eq_iff_iff]; simp; omega
      first | (simp_all; done) | (simp_all; omega)
    · skip
      refine WL.step (WL.guardT rfl rfl rfl ?_)
      refine WL.move rfl rfl ?_
      refine WL.step (WL.guardT rfl rfl rfl ?_)
      refine WL.ltI rfl rfl rfl ?_
      refine WL.step ?_
      refine WL.pickF rfl rfl rfl ?_
      refine WL.step ?_
      refine WL.move rfl rfl ?_
      refine WA.splitB (i := 16) rfl (fun g16 => ?_) (fun g16 => ?_)
      · skip
        refine WL.step (WL.guardF rfl rfl rfl rfl rfl rfl ?_)
        refine WL.step (WL.guardF rfl rfl rfl rfl rfl rfl ?_)
        refine WL.step (WL.guardF rfl rfl rfl rfl rfl rfl ?_)
        refine WL.step (WL.guardF rfl rfl rfl rfl rfl rfl ?_)
        refine WL.step ?_
        refine WL.pickT rfl rfl rfl ?_
        refine WL.nil ?_
        refine WQ.byCut hQ (subF_bool ?_ ⟨rfl, rfl, rfl, trivial⟩ rfl)
        have e0 : ((lv : Int) == 0) = decide (lv = 0) := by rw [Bool.eq_iff_iff]; simp
        have e1 : decide ((100 : Int) < (t.name.length : Int)) = decide (100 < t.name.length) := by rw [Bool.eq_iff_iff]; simp; omega
        first | (simp_all; done) | (simp_all; omega)
      · skip
        refine WL.step (WL.guardT rfl rfl rfl ?_)
        refine WL.fieldAddr0 F.fld25_1 rfl rfl ?_
        refine WL.step (WL.guardT rfl rfl rfl ?_)
        refine WL.loadP F.one9 rfl rfl (by repeat (first | exact List.Mem.head _ | apply List.Mem.tail)) rfl ?_
        refine WL.step (WL.guardT rfl rfl rfl ?_)
        refine WL.lenS F.und9 rfl rfl ?_
        refine WL.step (WL.guardT rfl rfl rfl ?_)
        refine WL.gtI rfl rfl rfl ?_
        refine WL.step ?_
        refine WL.pickF rfl rfl rfl ?_
        refine WL.nil ?_
        refine WQ.byCut hQ (subF_bool ?_ ⟨rfl, rfl, rfl, trivial⟩ rfl)
        have e0 : ((lv : Int) == 0) = decide (lv = 0) := by rw [Bool.eq_iff_iff]; simp
        have e1 : decide ((100 : Int) < (t.name.length : Int)) = decide (100 < t.name.length) := by rw [Bool.eq_iff_iff]; simp; omega
        first | (simp_all; done) | (simp_all; omega)
  refine WQ.then_normal ?_
  refine WC.cond rfl (fun h21 => ?_) (fun h21 => ?_)
  · skip
    have hc : Fm.cntT lv left t = -1 := by rw [Fm.cntT_mk, if_pos]; simpa [or_assoc] using h21
    refine WC.seq ?_
    refine WC.region ?_
    refine WL.step ?_
    refine WL.assign rfl rfl ?_
    refine WL.nil ?_
    refine WQ.then_normal ?_
    refine WC.ret ?_
    refine WQ.then_ret ?_
    exact WQ.ret (rs := [.tmp 6]) rfl (.tmp rfl .nil) (fun w hS => ⟨by rw [hc]; rfl, hS.drop⟩)
  · skip
    have hcn : ¬ (lv = 0 ∨ left - 1 < 0 ∨ 100 < t.name.length) := by intro h0; have h9 : (decide (lv = 0) || decide (left - 1 < 0) || decide (100 < t.name.length)) = true := (by simpa [or_assoc] using h0); rw [h9] at h21; cases h21
    have hc : Fm.cntT lv left t = (Fm.cntL (lv - 1) (left - 1) t.kids) := by rw [Fm.cntT_mk, if_neg hcn]
    simp only [not_or] at hcn
    refine WC.skip ?_
    refine WQ.then_normal ?_
    refine WC.seq ?_
    refine WC.seq ?_
    refine WC.region ?_
    refine WL.step ?_
    refine WL.assign rfl rfl ?_
    refine WL.nil ?_
    refine WQ.then_normal ?_
    refine WC.block ?_
    refine WC.loop (α := Nat × Int) (fun g => g.1 ≤ t.kids.length ∧ -1 ≤ g.2 ∧ (g.1 : Int) + g.2 ≤ 1200 ∧ Fm.cntL (lv - 1) g.2 (t.kids.drop g.1) = (Fm.cntL (lv - 1) (left - 1) t.kids)) (fun g => [(1, .int .i64 (lv : Int)), (2, .int .i64 g.2), (3, pp b3), (7, .int .i64 (g.1 : Int))]) (fun _ => [pt b3 [Value.int .u8 t.op, .string (str t.name), .slice a t.kids.length c] 25]) (fun g => t.kids.length - g.1) ((0, left - 1)) ?_ ?_ ?_ ?_
    · exact ⟨Nat.zero_le _, by dsimp only; omega, by dsimp only; omega, rfl⟩
    · exact ⟨rfl, rfl, rfl, rfl, trivial⟩
    · rfl
    rintro ⟨i, l⟩ ⟨hi, hl2, hl3, hcl⟩
    dsimp only at hi hl2 hl3 hcl
    show WC _ _ _ _ _ _ _ [(1, .int .i64 (lv : Int)), (2, .int .i64 l), (3, pp b3), (7, .int .i64 (i : Int))] [pt b3 [Value.int .u8 t.op, .string (str t.name), .slice a t.kids.length c] 25]
    refine WC.seq ?_
    refine WC.seq ?_
    refine WC.region ?_
    refine WL.step ?_
    refine WL.move rfl rfl ?_
    refine WL.step ?_
    refine WL.fieldAddr0 F.fld25_2 rfl rfl ?_
    refine WL.step ?_
    refine WL.loadP F.one23 rfl rfl (by repeat (first | exact List.Mem.head _ | apply List.Mem.tail)) rfl ?_
    refine WL.step ?_
    refine WL.lenSl F.und23 rfl rfl ?_
    refine WL.step ?_
    refine WL.ltI rfl rfl rfl ?_
    refine WL.step ?_
    refine WL.move rfl rfl ?_
    refine WA.splitB (i := 27) rfl (fun h27 => ?_) (fun h27 => ?_)
    · skip
      have hlt : i < t.kids.length := by simpa using h27
      refine WL.step (WL.guardT rfl rfl rfl ?_)
      refine WL.move rfl rfl ?_
      refine WL.step (WL.guardT rfl rfl rfl ?_)
      refine WL.geI rfl rfl rfl ?_
      refine WL.step ?_
      refine WL.pickT rfl rfl rfl ?_
      refine WL.nil ?_
      refine WQ.then_normal ?_
      refine WC.cond rfl (fun h30 => ?_) (fun h30 => ?_)
      · skip
        have hl4 : 0 ≤ l := by simpa using h30
        obtain ⟨k, hk⟩ : ∃ k, t.kids[i]? = some k := ⟨_, List.getElem?_eq_getElem hlt⟩
        obtain ⟨b, off, F1, a1, c1, rfl, hb, hF1, hrk, hck⟩ := rdT_at hr hk
        have hkb := Fm.cntT_le (lv - 1) l k hl4
        refine WC.skip ?_
        refine WQ.then_normal ?_
        refine WC.seq ?_
        refine WC.block ?_
        refine WC.region ?_
        refine WL.step ?_
        refine WL.fieldAddr0 F.fld25_2 rfl rfl ?_
        refine WL.step ?_
        refine WL.loadP F.one23 rfl rfl (by repeat (first | exact List.Mem.head _ | apply List.Mem.tail)) rfl ?_
        refine WL.step ?_
        refine WL.move rfl rfl ?_
        refine WL.step ?_
        refine WL.indexAddr F.sl23 rfl rfl rfl hlt ?_
        refine WL.step ?_
        refine WL.loadN F.agg25 rfl rfl (vs := [Value.int .u8 k.op, .string (str k.name), .slice a1 k.kids.length c1]) rfl (fun w hS j v hv => (hE.st hS).cell (hck j v hv)) ?_
        refine WL.step ?_
        refine WL.move rfl rfl ?_
        refine WL.step ?_
        refine WL.sub rfl rfl rfl ⟨by omega, by omega⟩ ?_
        refine WA.say 39 (.int .i64 ((lv - 1 : Nat) : Int)) (congrArg (fun z => some (Value.int .i64 z)) (show (lv : Int) - 1 = ((lv - 1 : Nat) : Int) by omega)) ?_
        refine WL.step ?_
        refine WL.move rfl rfl ?_
        refine WL.step ?_
        refine WL.callV F.fun50 rfl rfl (fun w hS => hrec (by omega) k l wb F1 a1 c1 w (by omega) (by omega) hrk (hE.st hS)) ?_
        refine WL.step ?_
        refine WL.assign rfl rfl ?_
        refine WL.nil ?_
        refine WQ.block_normal ?_
        refine WQ.then_normal ?_
        refine WC.region ?_
        refine WL.step ?_
        refine WL.move rfl rfl ?_
        refine WL.step ?_
        refine WL.add rfl rfl rfl ⟨by omega, by omega⟩ ?_
        refine WL.step ?_
        refine WL.assign rfl rfl ?_
        refine WL.nil ?_
        refine WQ.back ((i + 1, Fm.cntT (lv - 1) l k)) ?_ ?_ ?_ ?_
        · exact ⟨by show i + 1 ≤ _; omega, hkb.2, by show ((i + 1 : Nat) : Int) + Fm.cntT (lv - 1) l k ≤ 1200; omega, by rw [← hcl, Fm.cntL_drop hk (by omega)]⟩
        · (show t.kids.length - (i + 1) < t.kids.length - i; omega)
        · exact ⟨rfl, rfl, rfl, rfl, trivial⟩
        · rfl
      · skip
        have hl5 : l = (Fm.cntL (lv - 1) (left - 1) t.kids) := by rw [← hcl]; exact (Fm.cntL_stop (by simp at h30; omega)).symm
        refine WC.exit ?_
        refine WQ.then_exit ?_
        refine WQ.then_exit ?_
        refine WQ.block_exit ?_
        refine WQ.then_normal ?_
        refine WC.seq ?_
        refine WC.region ?_
        refine WL.step ?_
        refine WL.move rfl rfl ?_
        refine WL.step ?_
        refine WL.assign rfl rfl ?_
        refine WL.nil ?_
        refine WQ.then_normal ?_
        refine WC.ret ?_
        exact WQ.ret (rs := [.tmp 6]) rfl (.tmp rfl .nil) (fun w hS => ⟨by rw [hc, ← hl5]; rfl, hS.drop⟩)
    · skip
      have hie : i = t.kids.length := by simp at h27; omega
      have hl5 : l = (Fm.cntL (lv - 1) (left - 1) t.kids) := by rw [← hcl, hie, List.drop_length]; rfl
      refine WL.step (WL.guardF rfl rfl rfl rfl rfl rfl ?_)
      refine WL.step (WL.guardF rfl rfl rfl rfl rfl rfl ?_)
      refine WL.step ?_
      refine WL.pickF rfl rfl rfl ?_
      refine WL.nil ?_
      refine WQ.then_normal ?_
      refine WC.condF rfl ?_
      refine WC.exit ?_
      refine WQ.then_exit ?_
      refine WQ.then_exit ?_
      refine WQ.block_exit ?_
      refine WQ.then_normal ?_
      refine WC.seq ?_
      refine WC.region ?_
      refine WL.step ?_
      refine WL.move rfl rfl ?_
      refine WL.step ?_
      refine WL.assign rfl rfl ?_
      refine WL.nil ?_
      refine WQ.then_normal ?_
      refine WC.ret ?_
      exact WQ.ret (rs := [.tmp 6]) rfl (.tmp rfl .nil) (fun w hS => ⟨by rw [hc, ← hl5]; rfl, hS.drop⟩)

theorem count_c : ∀ lv, lv ≤ 1000 → CntC lv
  | 0, h => count_step 0 h (fun h0 => absurd h0 (by decide))
  | lv + 1, h => count_step (lv + 1) h (fun _ => count_c lv (by omega))

theorem great_c (t : Tree) (lv : Nat) (hlv : lv ≤ 1000) (wb : World) (G : List Nat) (a : Option Addr) (c : Nat) (w : World) (hr : rdT wb t G (tv t a c)) (hE : Ext wb w) : Pure Try.prog 17 [tv t a c, .int .i64 (lv : Int)] w (.bool (Fm.greatB t lv)) := by
  refine enter Try.func17 rfl Try.ntmps17 rfl (St.init _) ?_
  refine WC.seq ?_
  refine WC.region ?_
  refine WL.step ?_
  refine WL.boxN rfl rfl (fun b2 => ?_)
  refine WL.step ?_
  refine WL.assign rfl rfl ?_
  refine WL.nil ?_
  refine WQ.then_normal ?_
  refine WC.seq ?_
  refine WC.region ?_
  refine WL.step ?_
  refine WL.loadW F.agg25 rfl rfl (by repeat (first | exact List.Mem.head _ | apply List.Mem.tail)) rfl ?_
  refine WL.step ?_
  refine WL.move rfl rfl ?_
  refine WL.step ?_
  refine WL.callV F.fun50 rfl rfl (fun w hS => count_c lv hlv t 1200 wb G a c w (by omega) (by omega) hr (hE.st hS)) ?_
  refine WL.step ?_
  refine WL.ltI rfl rfl rfl ?_
  refine WL.step ?_
  refine WL.assign rfl rfl ?_
  refine WL.nil ?_
  refine WQ.then_normal ?_
  refine WC.ret ?_
  exact WQ.ret (rs := [.tmp 4]) rfl (.tmp rfl .nil) (fun w hS => ⟨rfl, hS.drop⟩)

def CopC (n : Nat) : Prop := ∀ (t : Tree) (wb : World) (G : List Nat) (a : Option Addr) (c : Nat) (w : World), (Fm.rowT t).length ≤ n → rdT wb t G (tv t a c) → Ext wb w →
  Calls Try.prog 18 [tv t a c].toArray w fun e w' => ∃ y : List Nat × Option Addr × Nat, e = .returned (tv t y.2.1 y.2.2) ∧ St w [] [own y.1 t (tv t y.2.1 y.2.2)] w'
structure CG where
  i : Nat
  F : List Nat
  vs : List Value
  ad : Option Addr
  cap : Nat

theorem Copied_step (n : Nat) (hn : n ≤ 1099511627776) (hrec : CopC n) : CopC (n + 1) := by
  intro t wb G a c w hsz hr hE
  refine enter Try.func18 rfl Try.ntmps18 rfl (St.init _) ?_
  refine WC.seq ?_
  refine WC.region ?_
  refine WL.step ?_
  refine WL.boxN rfl rfl (fun b1 => ?_)
  refine WL.step ?_
  refine WL.alloc F.zero25 rfl (fun b2 => ?_)
  refine WL.nil ?_
  refine WQ.then_normal ?_
  refine WC.seq ?_
  refine WC.region ?_
  refine WL.step ?_
  refine WL.fieldAddr0 F.fld25_0 rfl rfl ?_
  refine WL.step ?_
  refine WL.loadP F.one5 rfl rfl (by repeat (first | exact List.Mem.head _ | apply List.Mem.tail)) rfl ?_
  refine WL.step ?_
  refine WL.fieldAddr0 F.fld25_1 rfl rfl ?_
  refine WL.step ?_
  refine WL.loadP F.one9 rfl rfl (by repeat (first | exact List.Mem.head _ | apply List.Mem.tail)) rfl ?_
  refine WL.step ?_
  refine WL.build F.stT25 rfl (by repeat (first | exact Built.nil | apply Built.one rfl rfl (by repeat constructor) | apply Built.agg rfl rfl (by repeat constructor))) rfl ?_
  refine WL.step ?_
  refine WL.alloc F.zero25 rfl (fun b3 => ?_)
  refine WL.step ?_
  refine WL.storeN F.agg25 rfl rfl rfl (by simp [Value.oneCell']) (by repeat (first | exact Upd.here | apply Upd.there)) (by repeat constructor) ?_
  refine WL.nil ?_
  refine WQ.then_normal ?_
  refine WC.seq ?_
  refine WC.seq ?_
  refine WC.region ?_
  refine WL.step ?_
  refine WL.assign rfl rfl ?_
  refine WL.nil ?_
  refine WQ.then_normal ?_
  refine WC.block ?_
  refine WC.chunks (C' := [pt b1 [Value.int .u8 t.op, .string (str t.name), .slice a t.kids.length c] 25, pt b2 [Value.int .u8 0, .string (str []), .slice none 0 0] 25, pt b3 [Value.int .u8 t.op, .string (str t.name), .slice none 0 0] 25, rowc (.slice none 0 0) 0 25 3 [], ownL [] [] []]) (fun w hS => ?_) ?_
  · exact ((St.pick (St.pick (St.pick (St.pick (St.pick ((hS.rowNil 25 3).ownNil) (c := ownL [] [] []) (by repeat (first | exact Rem.here | apply Rem.there))) (c := rowc (.slice none 0 0) 0 25 3 []) (by repeat (first | exact Rem.here | apply Rem.there))) (c := pt b3 [Value.int .u8 t.op, .string (str t.name), .slice none 0 0] 25) (by repeat (first | exact Rem.here | apply Rem.there))) (c := pt b2 [Value.int .u8 0, .string (str []), .slice none 0 0] 25) (by repeat (first | exact Rem.here | apply Rem.there))) (c := pt b1 [Value.int .u8 t.op, .string (str t.name), .slice a t.kids.length c] 25) (by repeat (first | exact Rem.here | apply Rem.there)))).sublist (List.Sublist.cons_cons _ (List.Sublist.cons_cons _ (List.Sublist.cons_cons _ (List.Sublist.cons_cons _ (List.Sublist.cons_cons _ (List.nil_sublist _))))))
  refine WC.loop (α := CG) (fun g => g.i ≤ t.kids.length) (fun g => [(1, pp b1), (2, pp b2), (3, pp b3), (4, .int .i64 (g.i : Int))]) (fun g => [pt b1 [Value.int .u8 t.op, .string (str t.name), .slice a t.kids.length c] 25, pt b2 [Value.int .u8 0, .string (str []), .slice none 0 0] 25, pt b3 [Value.int .u8 t.op, .string (str t.name), .slice g.ad g.i g.cap] 25, rowc (.slice g.ad g.i g.cap) g.i 25 3 (flat g.vs), ownL g.F (t.kids.take g.i) g.vs]) (fun g => t.kids.length - g.i) (⟨0, [], [], none, 0⟩) ?_ ?_ ?_ ?_
  · exact Nat.zero_le _
  · exact ⟨rfl, rfl, rfl, rfl, trivial⟩
  · rfl
  rintro ⟨i, Fb, vs, ad, cap⟩ hi
  dsimp only at hi
  show WC _ _ _ _ _ _ _ [(1, pp b1), (2, pp b2), (3, pp b3), (4, .int .i64 (i : Int))] [pt b1 [Value.int .u8 t.op, .string (str t.name), .slice a t.kids.length c] 25, pt b2 [Value.int .u8 0, .string (str []), .slice none 0 0] 25, pt b3 [Value.int .u8 t.op, .string (str t.name), .slice ad i cap] 25, rowc (.slice ad i cap) i 25 3 (flat vs), ownL Fb (t.kids.take i) vs]
  refine WC.seq ?_
  refine WC.seq ?_
  refine WC.region ?_
  refine WL.step ?_
  refine WL.move rfl rfl ?_
  refine WL.step ?_
  refine WL.fieldAddr0 F.fld25_2 rfl rfl ?_
  refine WL.step ?_
  refine WL.loadP F.one23 rfl rfl (by repeat (first | exact List.Mem.head _ | apply List.Mem.tail)) rfl ?_
  refine WL.step ?_
  refine WL.lenSl F.und23 rfl rfl ?_
  refine WL.step ?_
  refine WL.ltI rfl rfl rfl ?_
  refine WL.nil ?_
  refine WQ.then_normal ?_
  refine WC.cond rfl (fun h11 => ?_) (fun h11 => ?_)
  · skip
    have hlt : i < t.kids.length := by simpa using h11
    obtain ⟨k, hk⟩ : ∃ k, t.kids[i]? = some k := ⟨_, List.getElem?_eq_getElem hlt⟩
    obtain ⟨b, off, F1, a1, c1, rfl, hb, hF1, hrk, hck⟩ := rdT_at hr hk
    have hks := Fm.rowT_kid hk
    have hkl := Fm.kids_le t
    refine WC.skip ?_
    refine WQ.then_normal ?_
    refine WC.seq ?_
    refine WC.block ?_
    refine WC.drawsL (by kernel_rfl) (FactsOk.cons (ds := [9, 11]) (LoadOk.one (t := 3) (off := 2) rfl (by repeat (first | exact List.Mem.head _ | apply List.Mem.tail)) rfl) (FactsOk.cons (ds := [7, 8, 9, 11]) (LoadOk.one (t := 1) (off := 2) rfl (by repeat (first | exact List.Mem.head _ | apply List.Mem.tail)) rfl) (FactsOk.cons (ds := [7, 8, 9, 11]) (LoadOk.by (Y := fun w => ∀ j v, [Value.int .u8 k.op, .string (str k.name), .slice a1 k.kids.length c1][j]? = some v → w.cell? ⟨b, off + i * 3 + j, none⟩ = some v) (fun w hS => fun j v hv => (hE.st hS).cell (hck j v hv))) (FactsOk.nil)))) ?_
    refine WD.take (i := 0) rfl rfl rfl rfl (by kernel_rfl) (by kernel_rfl) (by kernel_rfl) (fun _ _ _ h => h) (by kernel_rfl) need_none (Yl.fieldAddr0 F.fld25_2 rfl) ?_
    refine WD.take (i := 1) rfl rfl rfl rfl (by kernel_rfl) (by kernel_rfl) (by kernel_rfl) (fun _ _ _ h => h) (by kernel_rfl) (need_at 0 12 rfl (by kernel_rfl)) (Yl.load1 F.one23 rfl) ?_
    refine WD.take (i := 2) rfl rfl rfl rfl (by kernel_rfl) (by kernel_rfl) (by kernel_rfl) (fun _ _ _ h => h) (by kernel_rfl) need_none (Yl.fieldAddr0 F.fld25_2 rfl) ?_
    refine WD.take (i := 3) rfl rfl rfl rfl (by kernel_rfl) (by kernel_rfl) (by kernel_rfl) (fun _ _ _ h => h) (by kernel_rfl) (need_at 1 12 rfl (by kernel_rfl)) (Yl.load1 F.one23 rfl) ?_
    refine WD.take (i := 4) rfl rfl rfl rfl (by kernel_rfl) (by kernel_rfl) (by kernel_rfl) (fun _ _ _ h => h) (by kernel_rfl) need_none (Yl.move rfl) ?_
    refine WD.take (i := 5) rfl rfl rfl rfl (by kernel_rfl) (by kernel_rfl) (by kernel_rfl) (fun _ _ _ h => h) (by kernel_rfl) need_none (Yl.indexAddr F.sl23 rfl rfl hlt) ?_
    refine WD.take (i := 6) rfl rfl rfl rfl (by kernel_rfl) (by kernel_rfl) (by kernel_rfl) (fun _ _ _ h => h) (by kernel_rfl) (need_at 2 12 rfl (by kernel_rfl)) (Yl.loadN F.agg25 rfl rfl) ?_
    refine WD.one (i := 7) (by kernel_rfl) rfl ?_
    refine WL.callC (β := List Nat × Option Addr × Nat) (res := fun y => tv k y.2.1 y.2.2) (cs := fun y => [own y.1 k (tv k y.2.1 y.2.2)]) (Cs := []) (O' := []) F.fun18 (fun d h => by cases h; rfl) rfl (List.Perm.refl _) (by simp) (by simp) (fun w hS _ => hrec k wb F1 a1 c1 w (by omega) hrk (hE.st hS)) (fun y24 => ?_)
    refine WD.on (closed_of (by kernel_rfl)) (fun w hS => Sx.keep (hS.cell (by repeat (first | exact List.Mem.head _ | apply List.Mem.tail)) rfl) (Sx.gone rfl (Sx.gone rfl (Sx.none)))) ?_
    refine WD.one (i := 8) (by kernel_rfl) rfl ?_
    refine WL.buildSlice F.sl23 F.ez23 rfl rfl rfl rfl (by repeat (first | exact Built.nil | apply Built.one rfl rfl (by repeat constructor) | apply Built.agg rfl rfl (by repeat constructor))) rfl (fun b25 => ?_)
    refine WD.on (closed_of (by kernel_rfl)) (fun w hS => Sx.keep (hS.cell (by repeat (first | exact List.Mem.head _ | apply List.Mem.tail)) rfl) (Sx.gone rfl (Sx.gone rfl (Sx.none)))) ?_
    refine WD.one (i := 9) (by kernel_rfl) rfl ?_
    refine WL.appendE (news := [Value.int .u8 k.op, .string (str k.name), .slice y24.2.1 k.kids.length y24.2.2]) F.el23 rfl rfl rfl (by repeat (first | exact Rem.here | apply Rem.there)) (fun w hS j u hu => by rw [Nat.zero_add]; exact hS.cell (cs := [Value.int .u8 k.op, .string (str k.name), .slice y24.2.1 k.kids.length y24.2.2]) (by repeat (first | exact List.Mem.head _ | apply List.Mem.tail)) hu) rfl (by simp [Value.oneCell']) (Nat.le_trans (m := 1099511627777) (by omega) (by decide)) (by omega) (fun ad3 cap3 => ?_)
    refine WD.on (closed_of (by kernel_rfl)) (fun w hS => Sx.gone rfl (Sx.gone rfl (Sx.gone rfl (Sx.none)))) ?_
    refine WD.take (i := 10) rfl rfl rfl rfl (by kernel_rfl) (by kernel_rfl) (by kernel_rfl) (fun _ _ _ h => h) (by kernel_rfl) need_none (Yl.fieldAddr0 F.fld25_2 rfl) ?_
    refine WD.one (i := 11) (by kernel_rfl) rfl ?_
    refine WL.store1 F.one23 rfl rfl rfl (by repeat (first | exact Upd.here | apply Upd.there)) (by repeat constructor) ?_
    refine WD.on (closed_of (by kernel_rfl)) (fun w hS => Sx.gone rfl (Sx.gone rfl (Sx.gone rfl (Sx.none)))) ?_
    refine WD.done (by kernel_rfl) ?_
    refine WQ.block_normal ?_
    refine WQ.then_normal ?_
    refine WC.region ?_
    refine WL.step ?_
    refine WL.move rfl rfl ?_
    refine WL.step ?_
    refine WL.add rfl rfl rfl ⟨by omega, by omega⟩ ?_
    refine WL.step ?_
    refine WL.assign rfl rfl ?_
    refine WL.nil ?_
    refine WQ.chunks (C' := [pt b1 [Value.int .u8 t.op, .string (str t.name), .slice (some ⟨b, off, none⟩) t.kids.length c] 25, pt b2 [Value.int .u8 0, .string (str []), .slice none 0 0] 25, pt b3 [Value.int .u8 t.op, .string (str t.name), .slice ad3 (i + 1) cap3] 25, rowc (.slice ad3 (i + 1) cap3) (i + 1) 25 3 (flat vs ++ [Value.int .u8 k.op, .string (str k.name), .slice y24.2.1 k.kids.length y24.2.2]), ownL (Fb ++ y24.1) (t.kids.take i ++ [k]) (vs ++ [tv k y24.2.1 y24.2.2])]) (fun w hS => ?_) ?_
    · have h2 := St.ownSnoc (St.pick (St.pick hS (c := own y24.1 k (tv k y24.2.1 y24.2.2)) (by repeat (first | exact Rem.here | apply Rem.there))) (c := ownL Fb (t.kids.take i) vs) (by repeat (first | exact Rem.here | apply Rem.there)))
      exact ((St.pick (St.pick (St.pick (St.pick (St.pick h2 (c := ownL (Fb ++ y24.1) (t.kids.take i ++ [k]) (vs ++ [tv k y24.2.1 y24.2.2])) (by repeat (first | exact Rem.here | apply Rem.there))) (c := rowc (.slice ad3 (i + 1) cap3) (i + 1) 25 3 (flat vs ++ [Value.int .u8 k.op, .string (str k.name), .slice y24.2.1 k.kids.length y24.2.2])) (by repeat (first | exact Rem.here | apply Rem.there))) (c := pt b3 [Value.int .u8 t.op, .string (str t.name), .slice ad3 (i + 1) cap3] 25) (by repeat (first | exact Rem.here | apply Rem.there))) (c := pt b2 [Value.int .u8 0, .string (str []), .slice none 0 0] 25) (by repeat (first | exact Rem.here | apply Rem.there))) (c := pt b1 [Value.int .u8 t.op, .string (str t.name), .slice (some ⟨b, off, none⟩) t.kids.length c] 25) (by repeat (first | exact Rem.here | apply Rem.there)))).sublist (List.Sublist.cons_cons _ (List.Sublist.cons_cons _ (List.Sublist.cons_cons _ (List.Sublist.cons_cons _ (List.Sublist.cons_cons _ (List.nil_sublist _))))))
    have e1 : t.kids.take i ++ [k] = t.kids.take (i + 1) := by rw [List.take_add_one, hk]; rfl
    have e2 : flat vs ++ [Value.int .u8 k.op, .string (str k.name), .slice y24.2.1 k.kids.length y24.2.2] = flat (vs ++ [tv k y24.2.1 y24.2.2]) := by rw [flat_append]; simp [flat, tv, Value.cells]
    rw [e1, e2]
    refine WQ.back (⟨i + 1, Fb ++ y24.1, vs ++ [tv k y24.2.1 y24.2.2], ad3, cap3⟩) ?_ ?_ ?_ ?_
    · exact (show i + 1 ≤ t.kids.length by omega)
    · (show t.kids.length - (i + 1) < t.kids.length - i; omega)
    · exact ⟨rfl, rfl, rfl, rfl, trivial⟩
    · rfl
  · skip
    have hie : i = t.kids.length := by simp at h11; omega
    subst hie
    rw [List.take_length]
    refine WC.exit ?_
    refine WQ.then_exit ?_
    refine WQ.then_exit ?_
    refine WQ.block_exit ?_
    refine WQ.then_normal ?_
    refine WC.seq ?_
    refine WC.region ?_
    refine WL.step ?_
    refine WL.loadW F.agg25 rfl rfl (by repeat (first | exact List.Mem.head _ | apply List.Mem.tail)) rfl ?_
    refine WL.step ?_
    refine WL.storeN F.agg25 rfl rfl rfl (by simp [Value.oneCell']) (by repeat (first | exact Upd.here | apply Upd.there)) (by repeat constructor) ?_
    refine WL.nil ?_
    refine WQ.then_normal ?_
    refine WC.ret ?_
    refine WQ.ret (rs := [.cell 2 25]) rfl (.cellN F.agg25 rfl (by repeat (first | exact List.Mem.head _ | apply List.Mem.tail)) rfl .nil) (fun w hS => ?_)
    obtain ⟨F2, h2⟩ := St.ownNode (ts := t.kids) t.op t.name rfl (St.pick (St.pick hS (c := ownL Fb t.kids vs) (by repeat (first | exact Rem.here | apply Rem.there))) (c := rowc (.slice ad t.kids.length cap) t.kids.length 25 3 (flat vs)) (by repeat (first | exact Rem.here | apply Rem.there)))
    rw [show Tree.mk t.op t.name t.kids = t by cases t; rfl] at h2
    exact ⟨(F2, ad, cap), rfl, h2.one1⟩

theorem Copied_c : ∀ n, n ≤ 1099511627776 → CopC n
  | 0, _ => fun t wb G a c w hsz _ _ => by rw [Fm.rowT_eq] at hsz; simp at hsz
  | n + 1, h => Copied_step n (by omega) (Copied_c n (by omega))

end Go.Proofs.Ytbippghgkbapnaa
