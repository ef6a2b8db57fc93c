import Derived.Test.YtbippghgkbapnaaPaOwn4
set_option linter.unusedSimpArgs false
set_option linter.unusedVariables false
namespace Go.Proofs.Ytbippghgkbapnaa
open Go Go.Eng Go.Proofs
def RpdC (n : Nat) : Prop := ∀ (t u : Tree) (nm : List UInt8) (wb : World) (G H : List Nat) (a a2 : Option Addr) (c c2 : Nat) (w : World), (Fm.rowT t).length ≤ n → rdT wb t G (tv t a c) → rdT wb u H (tv u a2 c2) → Ext wb w →
  Calls Try.prog 42 [tv t a c, .string (str nm), tv u a2 c2].toArray w fun e w' => ∃ y : List Nat × Option Addr × Nat, e = .returned (tv (replT nm u t) y.2.1 y.2.2) ∧ St w [] [shr wb y.1 (replT nm u t) (tv (replT nm u t) y.2.1 y.2.2)] w'
theorem Rpd_step (n : Nat) (hn : n ≤ 1099511627776) (hrec : RpdC n) : RpdC (n + 1) := by
  intro t u nm wb G H a a2 c c2 w hsz hr hr2 hE
  refine enter Try.func42 rfl Try.ntmps42 rfl (St.init _) ?_
  refine WC.seq ?_
  refine WC.region ?_
  refine WL.step ?_
  refine WL.boxN rfl rfl (fun b3 => ?_)
  refine WL.step ?_
  refine WL.boxN rfl rfl (fun b5 => ?_)
  refine WL.step ?_
  refine WL.alloc F.zero25 rfl (fun b6 => ?_)
  refine WL.nil ?_
  refine WQ.then_normal ?_
  refine WC.seq ?_
  refine WC.seq ?_
  refine WC.cutF [(17, .bool (t.op == 3 && t.name == nm)), (1, .string (str nm)), (3, pp b3), (5, pp b5), (6, pp b6)] (fun Q' hQ => ?_) ?_
  · skip
    refine WC.region ?_
    refine WL.step ?_
    refine WL.fieldAddr0 F.fld25_0 rfl rfl ?_
    refine WL.step ?_
    refine WL.loadP F.one5 rfl rfl (by repeat (first | exact List.Mem.head _ | apply List.Mem.tail)) rfl ?_
    refine WL.step ?_
    refine WL.eqI rfl rfl rfl ?_
    refine WL.step ?_
    refine WL.move rfl rfl ?_
    refine WA.splitB (i := 12) rfl (fun g12 => ?_) (fun g12 => ?_)
    · skip
      refine WL.step (WL.guardT rfl rfl rfl ?_)
      refine WL.fieldAddr0 F.fld25_1 rfl rfl ?_
      refine WL.step (WL.guardT rfl rfl rfl ?_)
      refine WL.loadP F.one9 rfl rfl (by repeat (first | exact List.Mem.head _ | apply List.Mem.tail)) rfl ?_
      refine WL.step (WL.guardT rfl rfl rfl ?_)
      refine WL.move rfl rfl ?_
      refine WL.step (WL.guardT rfl rfl rfl ?_)
      refine WL.eqS rfl rfl rfl ?_
      refine WL.step ?_
      refine WL.pickT rfl rfl rfl ?_
      refine WL.nil ?_
      refine WQ.byCut hQ (subF_bool ?_ ⟨rfl, rfl, rfl, rfl, trivial⟩ rfl)
      first | (rw [g12, Bool.true_and]) | (rw [g12, Bool.false_and])
    · skip
      refine WL.step (WL.guardF rfl rfl rfl rfl rfl rfl ?_)
      refine WL.step (WL.guardF rfl rfl rfl rfl rfl rfl ?_)
      refine WL.step (WL.guardF rfl rfl rfl rfl rfl rfl ?_)
      refine WL.step (WL.guardF rfl rfl rfl rfl rfl rfl ?_)
      refine WL.step ?_
      refine WL.pickF rfl rfl rfl ?_
      refine WL.nil ?_
      refine WQ.byCut hQ (subF_bool ?_ ⟨rfl, rfl, rfl, rfl, trivial⟩ rfl)
      first | (rw [g12, Bool.true_and]) | (rw [g12, Bool.false_and])
  refine WQ.then_normal ?_
  refine WC.cond rfl (fun h17 => ?_) (fun h17 => ?_)
  · skip
    have hR : replT nm u t = u := by rw [replT_eq, if_pos h17]
    refine WC.seq ?_
    refine WC.region ?_
    refine WL.step ?_
    refine WL.loadW F.agg25 rfl rfl (by repeat (first | exact List.Mem.head _ | apply List.Mem.tail)) rfl ?_
    refine WL.step ?_
    refine WL.storeN F.agg25 rfl rfl rfl (by simp [Value.oneCell']) (by repeat (first | exact Upd.here | apply Upd.there)) (by repeat constructor) ?_
    refine WL.nil ?_
    refine WQ.then_normal ?_
    refine WC.ret ?_
    refine WQ.then_ret ?_
    refine WQ.ret (rs := [.cell 6 25]) rfl (.cellN F.agg25 rfl (by repeat (first | exact List.Mem.head _ | apply List.Mem.tail)) rfl .nil) (fun w hS => ⟨([], a2, c2), by rw [hR]; rfl, ?_⟩)
    rw [hR]
    exact (St.shrLeaf hS hr2 (fun k hk => rdT_lt hr2 k hk)).one1
  · skip
    have hR : replT nm u t = .mk t.op t.name (t.kids.map (replT nm u)) := by rw [replT_eq, if_neg (by rw [h17]; decide)]
    refine WC.skip ?_
    refine WQ.then_normal ?_
    refine WC.seq ?_
    refine WC.region ?_
    refine WL.step ?_
    refine WL.fieldAddr0 F.fld25_0 rfl rfl ?_
    refine WL.step ?_
    refine WL.loadP F.one5 rfl rfl (by repeat (first | exact List.Mem.head _ | apply List.Mem.tail)) rfl ?_
    refine WL.step ?_
    refine WL.fieldAddr0 F.fld25_1 rfl rfl ?_
    refine WL.step ?_
    refine WL.loadP F.one9 rfl rfl (by repeat (first | exact List.Mem.head _ | apply List.Mem.tail)) rfl ?_
    refine WL.step ?_
    refine WL.build F.stT25 rfl (by repeat (first | exact Built.nil | apply Built.one rfl rfl (by repeat constructor) | apply Built.agg rfl rfl (by repeat constructor))) rfl ?_
    refine WL.step ?_
    refine WL.alloc F.zero25 rfl (fun b7 => ?_)
    refine WL.step ?_
    refine WL.storeN F.agg25 rfl rfl rfl (by simp [Value.oneCell']) (by repeat (first | exact Upd.here | apply Upd.there)) (by repeat constructor) ?_
    refine WL.nil ?_
    refine WQ.then_normal ?_
    refine WC.seq ?_
    refine WC.seq ?_
    refine WC.region ?_
    refine WL.step ?_
    refine WL.assign rfl rfl ?_
    refine WL.nil ?_
    refine WQ.then_normal ?_
    refine WC.block ?_
    refine WC.chunks (C' := [pt b3 [Value.int .u8 t.op, .string (str t.name), .slice a t.kids.length c] 25, pt b5 [Value.int .u8 u.op, .string (str u.name), .slice a2 u.kids.length c2] 25, pt b6 [Value.int .u8 0, .string (str []), .slice none 0 0] 25, pt b7 [Value.int .u8 t.op, .string (str t.name), .slice none 0 0] 25, rowc (.slice none 0 0) 0 25 3 [], shrL wb [] [] []]) (fun w hS => ?_) ?_
    · exact ((St.pick (St.pick (St.pick (St.pick (St.pick (St.pick ((hS.rowNil 25 3).shrNil wb) (c := shrL wb [] [] []) (by repeat (first | exact Rem.here | apply Rem.there))) (c := rowc (.slice none 0 0) 0 25 3 []) (by repeat (first | exact Rem.here | apply Rem.there))) (c := pt b7 [Value.int .u8 t.op, .string (str t.name), .slice none 0 0] 25) (by repeat (first | exact Rem.here | apply Rem.there))) (c := pt b6 [Value.int .u8 0, .string (str []), .slice none 0 0] 25) (by repeat (first | exact Rem.here | apply Rem.there))) (c := pt b5 [Value.int .u8 u.op, .string (str u.name), .slice a2 u.kids.length c2] 25) (by repeat (first | exact Rem.here | apply Rem.there))) (c := pt b3 [Value.int .u8 t.op, .string (str t.name), .slice a t.kids.length c] 25) (by repeat (first | exact Rem.here | apply Rem.there)))).sublist (List.Sublist.cons_cons _ (List.Sublist.cons_cons _ (List.Sublist.cons_cons _ (List.Sublist.cons_cons _ (List.Sublist.cons_cons _ (List.Sublist.cons_cons _ (List.nil_sublist _)))))))
    refine WC.loop (α := CG) (fun g => g.i ≤ t.kids.length) (fun g => [(1, .string (str nm)), (3, pp b3), (5, pp b5), (6, pp b6), (7, pp b7), (8, .int .i64 (g.i : Int))]) (fun g => [pt b3 [Value.int .u8 t.op, .string (str t.name), .slice a t.kids.length c] 25, pt b5 [Value.int .u8 u.op, .string (str u.name), .slice a2 u.kids.length c2] 25, pt b6 [Value.int .u8 0, .string (str []), .slice none 0 0] 25, pt b7 [Value.int .u8 t.op, .string (str t.name), .slice g.ad g.i g.cap] 25, rowc (.slice g.ad g.i g.cap) g.i 25 3 (flat g.vs), shrL wb g.F (List.map (replT nm u) (t.kids.take g.i)) g.vs]) (fun g => t.kids.length - g.i) (⟨0, [], [], none, 0⟩) ?_ ?_ ?_ ?_
    · exact Nat.zero_le _
    · exact ⟨rfl, rfl, rfl, rfl, rfl, rfl, trivial⟩
    · rfl
    rintro ⟨i, Fb, vs, ad, cap⟩ hi
    dsimp only at hi
    show WC _ _ _ _ _ _ _ [(1, .string (str nm)), (3, pp b3), (5, pp b5), (6, pp b6), (7, pp b7), (8, .int .i64 (i : Int))] [pt b3 [Value.int .u8 t.op, .string (str t.name), .slice a t.kids.length c] 25, pt b5 [Value.int .u8 u.op, .string (str u.name), .slice a2 u.kids.length c2] 25, pt b6 [Value.int .u8 0, .string (str []), .slice none 0 0] 25, pt b7 [Value.int .u8 t.op, .string (str t.name), .slice ad i cap] 25, rowc (.slice ad i cap) i 25 3 (flat vs), shrL wb Fb (List.map (replT nm u) (t.kids.take i)) vs]
    refine WC.seq ?_
    refine WC.seq ?_
    refine WC.region ?_
    refine WL.step ?_
    refine WL.move rfl rfl ?_
    refine WL.step ?_
    refine WL.fieldAddr0 F.fld25_2 rfl rfl ?_
    refine WL.step ?_
    refine WL.loadP F.one23 rfl rfl (by repeat (first | exact List.Mem.head _ | apply List.Mem.tail)) rfl ?_
    refine WL.step ?_
    refine WL.lenSl F.und23 rfl rfl ?_
    refine WL.step ?_
    refine WL.ltI rfl rfl rfl ?_
    refine WL.nil ?_
    refine WQ.then_normal ?_
    refine WC.cond rfl (fun h28 => ?_) (fun h28 => ?_)
    · skip
      have hlt : i < t.kids.length := by simpa using h28
      obtain ⟨k, hk⟩ : ∃ k, t.kids[i]? = some k := ⟨_, List.getElem?_eq_getElem hlt⟩
      obtain ⟨b, off, F1, a1, c1, rfl, hb, hF1, hrk, hck⟩ := rdT_at hr hk
      have hks := Fm.rowT_kid hk
      have hkl := Fm.kids_le t
      refine WC.skip ?_
      refine WQ.then_normal ?_
      refine WC.seq ?_
      refine WC.block ?_
      refine WC.drawsL (by kernel_rfl) (FactsOk.cons (ds := [11, 13]) (LoadOk.one (t := 7) (off := 2) rfl (by repeat (first | exact List.Mem.head _ | apply List.Mem.tail)) rfl) (FactsOk.cons (ds := [9, 10, 11, 13]) (LoadOk.one (t := 3) (off := 2) rfl (by repeat (first | exact List.Mem.head _ | apply List.Mem.tail)) rfl) (FactsOk.cons (ds := [9, 10, 11, 13]) (LoadOk.by (Y := fun w => ∀ j v, [Value.int .u8 k.op, .string (str k.name), .slice a1 k.kids.length c1][j]? = some v → w.cell? ⟨b, off + i * 3 + j, none⟩ = some v) (fun w hS => fun j v hv => (hE.st hS).cell (hck j v hv))) (FactsOk.cons (ds := [9, 10, 11, 13]) (LoadOk.whole (t := 5) rfl (by repeat (first | exact List.Mem.head _ | apply List.Mem.tail))) (FactsOk.nil))))) ?_
      refine WD.take (i := 0) rfl rfl rfl rfl (by kernel_rfl) (by kernel_rfl) (by kernel_rfl) (fun _ _ _ h => h) (by kernel_rfl) need_none (Yl.fieldAddr0 F.fld25_2 rfl) ?_
      refine WD.take (i := 1) rfl rfl rfl rfl (by kernel_rfl) (by kernel_rfl) (by kernel_rfl) (fun _ _ _ h => h) (by kernel_rfl) (need_at 0 14 rfl (by kernel_rfl)) (Yl.load1 F.one23 rfl) ?_
      refine WD.take (i := 2) rfl rfl rfl rfl (by kernel_rfl) (by kernel_rfl) (by kernel_rfl) (fun _ _ _ h => h) (by kernel_rfl) need_none (Yl.fieldAddr0 F.fld25_2 rfl) ?_
      refine WD.take (i := 3) rfl rfl rfl rfl (by kernel_rfl) (by kernel_rfl) (by kernel_rfl) (fun _ _ _ h => h) (by kernel_rfl) (need_at 1 14 rfl (by kernel_rfl)) (Yl.load1 F.one23 rfl) ?_
      refine WD.take (i := 4) rfl rfl rfl rfl (by kernel_rfl) (by kernel_rfl) (by kernel_rfl) (fun _ _ _ h => h) (by kernel_rfl) need_none (Yl.move rfl) ?_
      refine WD.take (i := 5) rfl rfl rfl rfl (by kernel_rfl) (by kernel_rfl) (by kernel_rfl) (fun _ _ _ h => h) (by kernel_rfl) need_none (Yl.indexAddr F.sl23 rfl rfl hlt) ?_
      refine WD.take (i := 6) rfl rfl rfl rfl (by kernel_rfl) (by kernel_rfl) (by kernel_rfl) (fun _ _ _ h => h) (by kernel_rfl) (need_at 2 14 rfl (by kernel_rfl)) (Yl.loadN F.agg25 rfl rfl) ?_
      refine WD.take (i := 7) rfl rfl rfl rfl (by kernel_rfl) (by kernel_rfl) (by kernel_rfl) (fun _ _ _ h => h) (by kernel_rfl) need_none (Yl.move rfl) ?_
      refine WD.take (i := 8) rfl rfl rfl rfl (by kernel_rfl) (by kernel_rfl) (by kernel_rfl) (fun _ _ _ h => h) (by kernel_rfl) (need_at 3 14 rfl (by kernel_rfl)) (Yl.loadN F.agg25 rfl rfl) ?_
      refine WD.one (i := 9) (by kernel_rfl) rfl ?_
      refine WL.callC (β := List Nat × Option Addr × Nat) (res := fun y => tv (replT nm u k) y.2.1 y.2.2) (cs := fun y => [shr wb y.1 (replT nm u k) (tv (replT nm u k) y.2.1 y.2.2)]) (Cs := []) (O' := []) F.fun42 (fun d h => by cases h; rfl) rfl (List.Perm.refl _) (by simp) (by simp) (fun w hS _ => hrec k u nm wb F1 H a1 a2 c1 c2 w (by omega) hrk hr2 (hE.st hS)) (fun y40 => ?_)
      refine WD.on (closed_of (by kernel_rfl)) (fun w hS => Sx.keep (hS.cell (by repeat (first | exact List.Mem.head _ | apply List.Mem.tail)) rfl) (Sx.gone rfl (Sx.gone rfl (Sx.gone rfl (Sx.none))))) ?_
      refine WD.one (i := 10) (by kernel_rfl) rfl ?_
      refine WL.buildSlice F.sl23 F.ez23 rfl rfl rfl rfl (by repeat (first | exact Built.nil | apply Built.one rfl rfl (by repeat constructor) | apply Built.agg rfl rfl (by repeat constructor))) rfl (fun b41 => ?_)
      refine WD.on (closed_of (by kernel_rfl)) (fun w hS => Sx.keep (hS.cell (by repeat (first | exact List.Mem.head _ | apply List.Mem.tail)) rfl) (Sx.gone rfl (Sx.gone rfl (Sx.gone rfl (Sx.none))))) ?_
      refine WD.one (i := 11) (by kernel_rfl) rfl ?_
      refine WL.appendE (news := [Value.int .u8 (replT nm u k).op, .string (str (replT nm u k).name), .slice y40.2.1 (replT nm u k).kids.length y40.2.2]) F.el23 rfl rfl rfl (by repeat (first | exact Rem.here | apply Rem.there)) (fun w hS jj uu hu => by rw [Nat.zero_add]; exact hS.cell (cs := [Value.int .u8 (replT nm u k).op, .string (str (replT nm u k).name), .slice y40.2.1 (replT nm u k).kids.length y40.2.2]) (by repeat (first | exact List.Mem.head _ | apply List.Mem.tail)) hu) rfl (by simp [Value.oneCell']) (Nat.le_trans (m := 1099511627777) (by omega) (by decide)) (by omega) (fun ad3 cap3 => ?_)
      refine WD.on (closed_of (by kernel_rfl)) (fun w hS => Sx.gone rfl (Sx.gone rfl (Sx.gone rfl (Sx.gone rfl (Sx.none))))) ?_
      refine WD.take (i := 12) rfl rfl rfl rfl (by kernel_rfl) (by kernel_rfl) (by kernel_rfl) (fun _ _ _ h => h) (by kernel_rfl) need_none (Yl.fieldAddr0 F.fld25_2 rfl) ?_
      refine WD.one (i := 13) (by kernel_rfl) rfl ?_
      refine WL.store1 F.one23 rfl rfl rfl (by repeat (first | exact Upd.here | apply Upd.there)) (by repeat constructor) ?_
      refine WD.on (closed_of (by kernel_rfl)) (fun w hS => Sx.gone rfl (Sx.gone rfl (Sx.gone rfl (Sx.gone rfl (Sx.none))))) ?_
      refine WD.done (by kernel_rfl) ?_
      refine WQ.block_normal ?_
      refine WQ.then_normal ?_
      refine WC.region ?_
      refine WL.step ?_
      refine WL.move rfl rfl ?_
      refine WL.step ?_
      refine WL.add rfl rfl rfl ⟨by omega, by omega⟩ ?_
      refine WL.step ?_
      refine WL.assign rfl rfl ?_
      refine WL.nil ?_
      refine WQ.chunks (C' := [pt b3 [Value.int .u8 t.op, .string (str t.name), .slice (some ⟨b, off, none⟩) t.kids.length c] 25, pt b5 [Value.int .u8 u.op, .string (str u.name), .slice a2 u.kids.length c2] 25, pt b6 [Value.int .u8 0, .string (str []), .slice none 0 0] 25, pt b7 [Value.int .u8 t.op, .string (str t.name), .slice ad3 (i + 1) cap3] 25, rowc (.slice ad3 (i + 1) cap3) (i + 1) 25 3 (flat vs ++ [Value.int .u8 (replT nm u k).op, .string (str (replT nm u k).name), .slice y40.2.1 (replT nm u k).kids.length y40.2.2]), shrL wb (Fb ++ y40.1) ((List.map (replT nm u) (t.kids.take i)) ++ [(replT nm u k)]) (vs ++ [(tv (replT nm u k) y40.2.1 y40.2.2)])]) (fun w hS => ?_) ?_
      · have h2 := St.shrSnoc (St.pick (St.pick hS (c := shr wb y40.1 (replT nm u k) (tv (replT nm u k) y40.2.1 y40.2.2)) (by repeat (first | exact Rem.here | apply Rem.there))) (c := shrL wb Fb (List.map (replT nm u) (t.kids.take i)) vs) (by repeat (first | exact Rem.here | apply Rem.there)))
        exact ((St.pick (St.pick (St.pick (St.pick (St.pick (St.pick h2 (c := shrL wb (Fb ++ y40.1) ((List.map (replT nm u) (t.kids.take i)) ++ [(replT nm u k)]) (vs ++ [(tv (replT nm u k) y40.2.1 y40.2.2)])) (by repeat (first | exact Rem.here | apply Rem.there))) (c := rowc (.slice ad3 (i + 1) cap3) (i + 1) 25 3 (flat vs ++ [Value.int .u8 (replT nm u k).op, .string (str (replT nm u k).name), .slice y40.2.1 (replT nm u k).kids.length y40.2.2])) (by repeat (first | exact Rem.here | apply Rem.there))) (c := pt b7 [Value.int .u8 t.op, .string (str t.name), .slice ad3 (i + 1) cap3] 25) (by repeat (first | exact Rem.here | apply Rem.there))) (c := pt b6 [Value.int .u8 0, .string (str []), .slice none 0 0] 25) (by repeat (first | exact Rem.here | apply Rem.there))) (c := pt b5 [Value.int .u8 u.op, .string (str u.name), .slice a2 u.kids.length c2] 25) (by repeat (first | exact Rem.here | apply Rem.there))) (c := pt b3 [Value.int .u8 t.op, .string (str t.name), .slice (some ⟨b, off, none⟩) t.kids.length c] 25) (by repeat (first | exact Rem.here | apply Rem.there)))).sublist (List.Sublist.cons_cons _ (List.Sublist.cons_cons _ (List.Sublist.cons_cons _ (List.Sublist.cons_cons _ (List.Sublist.cons_cons _ (List.Sublist.cons_cons _ (List.nil_sublist _)))))))
      have e1 : (List.map (replT nm u) (t.kids.take i)) ++ [(replT nm u k)] = (List.map (replT nm u) (t.kids.take (i + 1))) := by rw [List.take_add_one, hk]; simp
      have e2 : flat vs ++ [Value.int .u8 (replT nm u k).op, .string (str (replT nm u k).name), .slice y40.2.1 (replT nm u k).kids.length y40.2.2] = flat (vs ++ [(tv (replT nm u k) y40.2.1 y40.2.2)]) := by rw [flat_append]; simp [flat, tv, Value.cells]
      rw [e1, e2]
      refine WQ.back (⟨i + 1, Fb ++ y40.1, vs ++ [(tv (replT nm u k) y40.2.1 y40.2.2)], ad3, cap3⟩) ?_ ?_ ?_ ?_
      · exact (show i + 1 ≤ t.kids.length by omega)
      · (show t.kids.length - (i + 1) < t.kids.length - i; omega)
      · exact ⟨rfl, rfl, rfl, rfl, rfl, rfl, trivial⟩
      · rfl
    · skip
      have hie : i = t.kids.length := by simp at h28; omega
      subst hie
      rw [List.take_length]
      refine WC.exit ?_
      refine WQ.then_exit ?_
      refine WQ.then_exit ?_
      refine WQ.block_exit ?_
      refine WQ.then_normal ?_
      refine WC.seq ?_
      refine WC.region ?_
      refine WL.step ?_
      refine WL.loadW F.agg25 rfl rfl (by repeat (first | exact List.Mem.head _ | apply List.Mem.tail)) rfl ?_
      refine WL.step ?_
      refine WL.storeN F.agg25 rfl rfl rfl (by simp [Value.oneCell']) (by repeat (first | exact Upd.here | apply Upd.there)) (by repeat constructor) ?_
      refine WL.nil ?_
      refine WQ.then_normal ?_
      refine WC.ret ?_
      refine WQ.ret (rs := [.cell 6 25]) rfl (.cellN F.agg25 rfl (by repeat (first | exact List.Mem.head _ | apply List.Mem.tail)) rfl .nil) (fun w hS => ?_)
      obtain ⟨F2, h2⟩ := St.shrNode (ts := t.kids.map (replT nm u)) t.op t.name (by simp) (St.pick (St.pick hS (c := shrL wb Fb (List.map (replT nm u) t.kids) vs) (by repeat (first | exact Rem.here | apply Rem.there))) (c := rowc (.slice ad t.kids.length cap) t.kids.length 25 3 (flat vs)) (by repeat (first | exact Rem.here | apply Rem.there)))
      have e9 : (Value.agg [Value.int .u8 t.op, .string (str t.name), .slice ad t.kids.length cap].toArray) = tv (replT nm u t) ad cap := by rw [hR]; simp [tv, Tree.op, Tree.name, Tree.kids]
      rw [← hR] at h2
      refine ⟨(F2, ad, cap), congrArg Ending.returned e9, ?_⟩
      show St _ [] [shr wb F2 (replT nm u t) (tv (replT nm u t) ad cap)] w
      rw [← e9]
      exact h2.one1

theorem Rpd_c : ∀ n, n ≤ 1099511627776 → RpdC n
  | 0, _ => fun t u nm wb G H a a2 c c2 w hsz => by rw [Fm.rowT_eq] at hsz; simp at hsz
  | n + 1, h => Rpd_step n (by omega) (Rpd_c n (by omega))
end Go.Proofs.Ytbippghgkbapnaa

namespace Go.Proofs.Ytbippghgkbapnaa
open Go Go.Eng Go.Proofs
theorem repE_small (nm : List UInt8) (u t : Tree) : (Fm.rowT (repE nm u t).1).length ≤ 1200 := by
  have hz : (Fm.rowT Fm.zeroTree).length ≤ 1200 := by simp [Fm.zeroTree, Fm.rowT, Fm.rowL]
  unfold repE
  split
  · exact hz
  · split
    · exact hz
    · split
      · rename_i h
        have := (valid_all h).2
        show (Fm.rowT (replT nm u t)).length ≤ 1200
        omega
      · exact hz

end Go.Proofs.Ytbippghgkbapnaa

namespace Go.Proofs.Ytbippghgkbapnaa
open Go Go.Eng Go.Proofs
def CopCW (n : Nat) : Prop := ∀ (t : Tree) (wb : World) (G : List Nat) (a : Option Addr) (c : Nat) (w : World), (Fm.rowT t).length ≤ n → rdT wb t G (tv t a c) → Ext wb w →
  Calls Try.prog 18 [tv t a c].toArray w fun e w' => ∃ y : List Nat × Option Addr × Nat, e = .returned (tv t y.2.1 y.2.2) ∧ St w [] [ownW y.1 t (tv t y.2.1 y.2.2)] w'

theorem CopiedW_step (n : Nat) (hn : n ≤ 1099511627776) (hrec : CopCW n) : CopCW (n + 1) := by
  intro t wb G a c w hsz hr hE
  refine enter Try.func18 rfl Try.ntmps18 rfl (St.init _) ?_
  refine WC.seq ?_
  refine WC.region ?_
  refine WL.step ?_
  refine WL.boxN rfl rfl (fun b1 => ?_)
  refine WL.step ?_
  refine WL.alloc F.zero25 rfl (fun b2 => ?_)
  refine WL.nil ?_
  refine WQ.then_normal ?_
  refine WC.seq ?_
  refine WC.region ?_
  refine WL.step ?_
  refine WL.fieldAddr0 F.fld25_0 rfl rfl ?_
  refine WL.step ?_
  refine WL.loadP F.one5 rfl rfl (by repeat (first | exact List.Mem.head _ | apply List.Mem.tail)) rfl ?_
  refine WL.step ?_
  refine WL.fieldAddr0 F.fld25_1 rfl rfl ?_
  refine WL.step ?_
  refine WL.loadP F.one9 rfl rfl (by repeat (first | exact List.Mem.head _ | apply List.Mem.tail)) rfl ?_
  refine WL.step ?_
  refine WL.build F.stT25 rfl (by repeat (first | exact Built.nil | apply Built.one rfl rfl (by repeat constructor) | apply Built.agg rfl rfl (by repeat constructor))) rfl ?_
  refine WL.step ?_
  refine WL.alloc F.zero25 rfl (fun b3 => ?_)
  refine WL.step ?_
  refine WL.storeN F.agg25 rfl rfl rfl (by simp [Value.oneCell']) (by repeat (first | exact Upd.here | apply Upd.there)) (by repeat constructor) ?_
  refine WL.nil ?_
  refine WQ.then_normal ?_
  refine WC.seq ?_
  refine WC.seq ?_
  refine WC.region ?_
  refine WL.step ?_
  refine WL.assign rfl rfl ?_
  refine WL.nil ?_
  refine WQ.then_normal ?_
  refine WC.block ?_
  refine WC.chunks (C' := [pt b1 [Value.int .u8 t.op, .string (str t.name), .slice a t.kids.length c] 25, pt b2 [Value.int .u8 0, .string (str []), .slice none 0 0] 25, pt b3 [Value.int .u8 t.op, .string (str t.name), .slice none 0 0] 25, rowc (.slice none 0 0) 0 25 3 [], ownWL [] [] []]) (fun w hS => ?_) ?_
  · exact ((St.pick (St.pick (St.pick (St.pick (St.pick ((hS.rowNil 25 3).ownWNil) (c := ownWL [] [] []) (by repeat (first | exact Rem.here | apply Rem.there))) (c := rowc (.slice none 0 0) 0 25 3 []) (by repeat (first | exact Rem.here | apply Rem.there))) (c := pt b3 [Value.int .u8 t.op, .string (str t.name), .slice none 0 0] 25) (by repeat (first | exact Rem.here | apply Rem.there))) (c := pt b2 [Value.int .u8 0, .string (str []), .slice none 0 0] 25) (by repeat (first | exact Rem.here | apply Rem.there))) (c := pt b1 [Value.int .u8 t.op, .string (str t.name), .slice a t.kids.length c] 25) (by repeat (first | exact Rem.here | apply Rem.there)))).sublist (List.Sublist.cons_cons _ (List.Sublist.cons_cons _ (List.Sublist.cons_cons _ (List.Sublist.cons_cons _ (List.Sublist.cons_cons _ (List.nil_sublist _))))))
  refine WC.loop (α := CG) (fun g => g.i ≤ t.kids.length) (fun g => [(1, pp b1), (2, pp b2), (3, pp b3), (4, .int .i64 (g.i : Int))]) (fun g => [pt b1 [Value.int .u8 t.op, .string (str t.name), .slice a t.kids.length c] 25, pt b2 [Value.int .u8 0, .string (str []), .slice none 0 0] 25, pt b3 [Value.int .u8 t.op, .string (str t.name), .slice g.ad g.i g.cap] 25, rowc (.slice g.ad g.i g.cap) g.i 25 3 (flat g.vs), ownWL g.F (t.kids.take g.i) g.vs]) (fun g => t.kids.length - g.i) (⟨0, [], [], none, 0⟩) ?_ ?_ ?_ ?_
  · exact Nat.zero_le _
  · exact ⟨rfl, rfl, rfl, rfl, trivial⟩
  · rfl
  rintro ⟨i, Fb, vs, ad, cap⟩ hi
  dsimp only at hi
  show WC _ _ _ _ _ _ _ [(1, pp b1), (2, pp b2), (3, pp b3), (4, .int .i64 (i : Int))] [pt b1 [Value.int .u8 t.op, .string (str t.name), .slice a t.kids.length c] 25, pt b2 [Value.int .u8 0, .string (str []), .slice none 0 0] 25, pt b3 [Value.int .u8 t.op, .string (str t.name), .slice ad i cap] 25, rowc (.slice ad i cap) i 25 3 (flat vs), ownWL Fb (t.kids.take i) vs]
  refine WC.seq ?_
  refine WC.seq ?_
  refine WC.region ?_
  refine WL.step ?_
  refine WL.move rfl rfl ?_
  refine WL.step ?_
  refine WL.fieldAddr0 F.fld25_2 rfl rfl ?_
  refine WL.step ?_
  refine WL.loadP F.one23 rfl rfl (by repeat (first | exact List.Mem.head _ | apply List.Mem.tail)) rfl ?_
  refine WL.step ?_
  refine WL.lenSl F.und23 rfl rfl ?_
  refine WL.step ?_
  refine WL.ltI rfl rfl rfl ?_
  refine WL.nil ?_
  refine WQ.then_normal ?_
  refine WC.cond rfl (fun h11 => ?_) (fun h11 => ?_)
  · skip
    have hlt : i < t.kids.length := by simpa using h11
    obtain ⟨k, hk⟩ : ∃ k, t.kids[i]? = some k := ⟨_, List.getElem?_eq_getElem hlt⟩
    obtain ⟨b, off, F1, a1, c1, rfl, hb, hF1, hrk, hck⟩ := rdT_at hr hk
    have hks := Fm.rowT_kid hk
    have hkl := Fm.kids_le t
    refine WC.skip ?_
    refine WQ.then_normal ?_
    refine WC.seq ?_
    refine WC.block ?_
    refine WC.drawsL (by kernel_rfl) (FactsOk.cons (ds := [9, 11]) (LoadOk.one (t := 3) (off := 2) rfl (by repeat (first | exact List.Mem.head _ | apply List.Mem.tail)) rfl) (FactsOk.cons (ds := [7, 8, 9, 11]) (LoadOk.one (t := 1) (off := 2) rfl (by repeat (first | exact List.Mem.head _ | apply List.Mem.tail)) rfl) (FactsOk.cons (ds := [7, 8, 9, 11]) (LoadOk.by (Y := fun w => ∀ j v, [Value.int .u8 k.op, .string (str k.name), .slice a1 k.kids.length c1][j]? = some v → w.cell? ⟨b, off + i * 3 + j, none⟩ = some v) (fun w hS => fun j v hv => (hE.st hS).cell (hck j v hv))) (FactsOk.nil)))) ?_
    refine WD.take (i := 0) rfl rfl rfl rfl (by kernel_rfl) (by kernel_rfl) (by kernel_rfl) (fun _ _ _ h => h) (by kernel_rfl) need_none (Yl.fieldAddr0 F.fld25_2 rfl) ?_
    refine WD.take (i := 1) rfl rfl rfl rfl (by kernel_rfl) (by kernel_rfl) (by kernel_rfl) (fun _ _ _ h => h) (by kernel_rfl) (need_at 0 12 rfl (by kernel_rfl)) (Yl.load1 F.one23 rfl) ?_
    refine WD.take (i := 2) rfl rfl rfl rfl (by kernel_rfl) (by kernel_rfl) (by kernel_rfl) (fun _ _ _ h => h) (by kernel_rfl) need_none (Yl.fieldAddr0 F.fld25_2 rfl) ?_
    refine WD.take (i := 3) rfl rfl rfl rfl (by kernel_rfl) (by kernel_rfl) (by kernel_rfl) (fun _ _ _ h => h) (by kernel_rfl) (need_at 1 12 rfl (by kernel_rfl)) (Yl.load1 F.one23 rfl) ?_
    refine WD.take (i := 4) rfl rfl rfl rfl (by kernel_rfl) (by kernel_rfl) (by kernel_rfl) (fun _ _ _ h => h) (by kernel_rfl) need_none (Yl.move rfl) ?_
    refine WD.take (i := 5) rfl rfl rfl rfl (by kernel_rfl) (by kernel_rfl) (by kernel_rfl) (fun _ _ _ h => h) (by kernel_rfl) need_none (Yl.indexAddr F.sl23 rfl rfl hlt) ?_
    refine WD.take (i := 6) rfl rfl rfl rfl (by kernel_rfl) (by kernel_rfl) (by kernel_rfl) (fun _ _ _ h => h) (by kernel_rfl) (need_at 2 12 rfl (by kernel_rfl)) (Yl.loadN F.agg25 rfl rfl) ?_
    refine WD.one (i := 7) (by kernel_rfl) rfl ?_
    refine WL.callC (β := List Nat × Option Addr × Nat) (res := fun y => tv k y.2.1 y.2.2) (cs := fun y => [ownW y.1 k (tv k y.2.1 y.2.2)]) (Cs := []) (O' := []) F.fun18 (fun d h => by cases h; rfl) rfl (List.Perm.refl _) (by simp) (by simp) (fun w hS _ => hrec k wb F1 a1 c1 w (by omega) hrk (hE.st hS)) (fun y24 => ?_)
    refine WD.on (closed_of (by kernel_rfl)) (fun w hS => Sx.keep (hS.cell (by repeat (first | exact List.Mem.head _ | apply List.Mem.tail)) rfl) (Sx.gone rfl (Sx.gone rfl (Sx.none)))) ?_
    refine WD.one (i := 8) (by kernel_rfl) rfl ?_
    refine WL.buildSlice F.sl23 F.ez23 rfl rfl rfl rfl (by repeat (first | exact Built.nil | apply Built.one rfl rfl (by repeat constructor) | apply Built.agg rfl rfl (by repeat constructor))) rfl (fun b25 => ?_)
    refine WD.on (closed_of (by kernel_rfl)) (fun w hS => Sx.keep (hS.cell (by repeat (first | exact List.Mem.head _ | apply List.Mem.tail)) rfl) (Sx.gone rfl (Sx.gone rfl (Sx.none)))) ?_
    refine WD.one (i := 9) (by kernel_rfl) rfl ?_
    refine WL.appendE (news := [Value.int .u8 k.op, .string (str k.name), .slice y24.2.1 k.kids.length y24.2.2]) F.el23 rfl rfl rfl (by repeat (first | exact Rem.here | apply Rem.there)) (fun w hS j u hu => by rw [Nat.zero_add]; exact hS.cell (cs := [Value.int .u8 k.op, .string (str k.name), .slice y24.2.1 k.kids.length y24.2.2]) (by repeat (first | exact List.Mem.head _ | apply List.Mem.tail)) hu) rfl (by simp [Value.oneCell']) (Nat.le_trans (m := 1099511627777) (by omega) (by decide)) (by omega) (fun ad3 cap3 => ?_)
    refine WD.on (closed_of (by kernel_rfl)) (fun w hS => Sx.gone rfl (Sx.gone rfl (Sx.gone rfl (Sx.none)))) ?_
    refine WD.take (i := 10) rfl rfl rfl rfl (by kernel_rfl) (by kernel_rfl) (by kernel_rfl) (fun _ _ _ h => h) (by kernel_rfl) need_none (Yl.fieldAddr0 F.fld25_2 rfl) ?_
    refine WD.one (i := 11) (by kernel_rfl) rfl ?_
    refine WL.store1 F.one23 rfl rfl rfl (by repeat (first | exact Upd.here | apply Upd.there)) (by repeat constructor) ?_
    refine WD.on (closed_of (by kernel_rfl)) (fun w hS => Sx.gone rfl (Sx.gone rfl (Sx.gone rfl (Sx.none)))) ?_
    refine WD.done (by kernel_rfl) ?_
    refine WQ.block_normal ?_
    refine WQ.then_normal ?_
    refine WC.region ?_
    refine WL.step ?_
    refine WL.move rfl rfl ?_
    refine WL.step ?_
    refine WL.add rfl rfl rfl ⟨by omega, by omega⟩ ?_
    refine WL.step ?_
    refine WL.assign rfl rfl ?_
    refine WL.nil ?_
    refine WQ.chunks (C' := [pt b1 [Value.int .u8 t.op, .string (str t.name), .slice (some ⟨b, off, none⟩) t.kids.length c] 25, pt b2 [Value.int .u8 0, .string (str []), .slice none 0 0] 25, pt b3 [Value.int .u8 t.op, .string (str t.name), .slice ad3 (i + 1) cap3] 25, rowc (.slice ad3 (i + 1) cap3) (i + 1) 25 3 (flat vs ++ [Value.int .u8 k.op, .string (str k.name), .slice y24.2.1 k.kids.length y24.2.2]), ownWL (Fb ++ y24.1) (t.kids.take i ++ [k]) (vs ++ [tv k y24.2.1 y24.2.2])]) (fun w hS => ?_) ?_
    · have h2 := St.ownWSnoc (St.pick (St.pick hS (c := ownW y24.1 k (tv k y24.2.1 y24.2.2)) (by repeat (first | exact Rem.here | apply Rem.there))) (c := ownWL Fb (t.kids.take i) vs) (by repeat (first | exact Rem.here | apply Rem.there)))
      exact ((St.pick (St.pick (St.pick (St.pick (St.pick h2 (c := ownWL (Fb ++ y24.1) (t.kids.take i ++ [k]) (vs ++ [tv k y24.2.1 y24.2.2])) (by repeat (first | exact Rem.here | apply Rem.there))) (c := rowc (.slice ad3 (i + 1) cap3) (i + 1) 25 3 (flat vs ++ [Value.int .u8 k.op, .string (str k.name), .slice y24.2.1 k.kids.length y24.2.2])) (by repeat (first | exact Rem.here | apply Rem.there))) (c := pt b3 [Value.int .u8 t.op, .string (str t.name), .slice ad3 (i + 1) cap3] 25) (by repeat (first | exact Rem.here | apply Rem.there))) (c := pt b2 [Value.int .u8 0, .string (str []), .slice none 0 0] 25) (by repeat (first | exact Rem.here | apply Rem.there))) (c := pt b1 [Value.int .u8 t.op, .string (str t.name), .slice (some ⟨b, off, none⟩) t.kids.length c] 25) (by repeat (first | exact Rem.here | apply Rem.there)))).sublist (List.Sublist.cons_cons _ (List.Sublist.cons_cons _ (List.Sublist.cons_cons _ (List.Sublist.cons_cons _ (List.Sublist.cons_cons _ (List.nil_sublist _))))))
    have e1 : t.kids.take i ++ [k] = t.kids.take (i + 1) := by rw [List.take_add_one, hk]; rfl
    have e2 : flat vs ++ [Value.int .u8 k.op, .string (str k.name), .slice y24.2.1 k.kids.length y24.2.2] = flat (vs ++ [tv k y24.2.1 y24.2.2]) := by rw [flat_append]; simp [flat, tv, Value.cells]
    rw [e1, e2]
    refine WQ.back (⟨i + 1, Fb ++ y24.1, vs ++ [tv k y24.2.1 y24.2.2], ad3, cap3⟩) ?_ ?_ ?_ ?_
    · exact (show i + 1 ≤ t.kids.length by omega)
    · (show t.kids.length - (i + 1) < t.kids.length - i; omega)
    · exact ⟨rfl, rfl, rfl, rfl, trivial⟩
    · rfl
  · skip
    have hie : i = t.kids.length := by simp at h11; omega
    subst hie
    rw [List.take_length]
    refine WC.exit ?_
    refine WQ.then_exit ?_
    refine WQ.then_exit ?_
    refine WQ.block_exit ?_
    refine WQ.then_normal ?_
    refine WC.seq ?_
    refine WC.region ?_
    refine WL.step ?_
    refine WL.loadW F.agg25 rfl rfl (by repeat (first | exact List.Mem.head _ | apply List.Mem.tail)) rfl ?_
    refine WL.step ?_
    refine WL.storeN F.agg25 rfl rfl rfl (by simp [Value.oneCell']) (by repeat (first | exact Upd.here | apply Upd.there)) (by repeat constructor) ?_
    refine WL.nil ?_
    refine WQ.then_normal ?_
    refine WC.ret ?_
    refine WQ.ret (rs := [.cell 2 25]) rfl (.cellN F.agg25 rfl (by repeat (first | exact List.Mem.head _ | apply List.Mem.tail)) rfl .nil) (fun w hS => ?_)
    obtain ⟨F2, h2⟩ := St.ownWNode (ts := t.kids) t.op t.name rfl (St.pick (St.pick hS (c := ownWL Fb t.kids vs) (by repeat (first | exact Rem.here | apply Rem.there))) (c := rowc (.slice ad t.kids.length cap) t.kids.length 25 3 (flat vs)) (by repeat (first | exact Rem.here | apply Rem.there)))
    rw [show Tree.mk t.op t.name t.kids = t by cases t; rfl] at h2
    exact ⟨(F2, ad, cap), rfl, h2.one1⟩

theorem CopiedW_c : ∀ n, n ≤ 1099511627776 → CopCW n
  | 0, _ => fun t wb G a c w hsz _ _ => by rw [Fm.rowT_eq] at hsz; simp at hsz
  | n + 1, h => CopiedW_step n (by omega) (CopiedW_c n (by omega))

def CloCW (n : Nat) : Prop := ∀ (t : Tree) (wb : World) (G : List Nat) (a : Option Addr) (c : Nat) (w : World), (Fm.rowT t).length ≤ n → rdT wb t G (tv t a c) → Ext wb w →
  Calls Try.prog 102 [tv t a c].toArray w fun e w' => ∃ y : List Nat × Option Addr × Nat, e = .returned (tv t y.2.1 y.2.2) ∧ St w [] [ownW y.1 t (tv t y.2.1 y.2.2)] w'

theorem CloW_step (n : Nat) (hn : n ≤ 1099511627776) (hrec : CloCW n) : CloCW (n + 1) := by
  intro t wb G a c w hsz hr hE
  obtain ⟨vs, hok, hcells⟩ := rdT_nodes hr
  have hkl := Fm.kids_le t
  refine enter Try.func102 rfl Try.ntmps102 rfl (St.init _) ?_
  refine WC.seq ?_
  refine WC.region ?_
  refine WL.step ?_
  refine WL.boxN rfl rfl (fun b1 => ?_)
  refine WL.step ?_
  refine WL.alloc F.zero25 rfl (fun b2 => ?_)
  refine WL.nil ?_
  refine WQ.then_normal ?_
  refine WC.seq ?_
  refine WC.region ?_
  refine WL.step ?_
  refine WL.fieldAddr0 F.fld25_2 rfl rfl ?_
  refine WL.step ?_
  refine WL.loadP F.one23 rfl rfl (by repeat (first | exact List.Mem.head _ | apply List.Mem.tail)) rfl ?_
  refine WL.step ?_
  refine WL.callC (β := Option Addr × Nat) (res := fun y => .slice y.1 t.kids.length y.2) (cs := fun y => [rowc (.slice y.1 t.kids.length y.2) t.kids.length 25 3 (flat vs)]) (Cs := []) (O' := []) F.fun103 (fun d h => by cases h; rfl) rfl (List.Perm.refl _) (by simp) (by simp) (fun w hS _ => CloneE_c t.kids.length vs a c w (by omega) hok.flat_len hok.flat_one (fun h0 => by obtain ⟨b, off, ha, hc⟩ := hcells h0; exact ⟨b, off, ha, fun j u hu => (hE.st hS).cell (hc j u hu)⟩)) (fun x7 => ?_)
  obtain ⟨ad, cap⟩ := x7
  refine WL.step ?_
  refine WL.assign rfl rfl ?_
  refine WL.nil ?_
  refine WQ.then_normal ?_
  refine WC.seq ?_
  refine WC.seq ?_
  refine WC.region ?_
  refine WL.step ?_
  refine WL.move rfl rfl ?_
  refine WL.step ?_
  refine WL.lenSl F.und23 rfl rfl ?_
  refine WL.step ?_
  refine WL.move rfl rfl ?_
  refine WL.nil ?_
  refine WQ.then_normal ?_
  refine WC.block ?_
  refine WC.chunks (fun w hS => hS.ownWNil) ?_
  refine WC.chunks (C' := [pt b1 [Value.int .u8 t.op, .string (str t.name), .slice a t.kids.length c] 25, pt b2 [Value.int .u8 0, .string (str []), .slice none 0 0] 25, rowc (.slice ad t.kids.length cap) t.kids.length 25 3 (flat ([] ++ vs.drop 0)), ownWL [] [] []]) (fun w hS => ((St.pick (St.pick (St.pick (St.pick hS (c := ownWL [] [] []) (by repeat (first | exact Rem.here | apply Rem.there))) (c := rowc (.slice ad t.kids.length cap) t.kids.length 25 3 (flat vs)) (by repeat (first | exact Rem.here | apply Rem.there))) (c := pt b2 [Value.int .u8 0, .string (str []), .slice none 0 0] 25) (by repeat (first | exact Rem.here | apply Rem.there))) (c := pt b1 [Value.int .u8 t.op, .string (str t.name), .slice a t.kids.length c] 25) (by repeat (first | exact Rem.here | apply Rem.there)))).sublist (List.Sublist.cons_cons _ (List.Sublist.cons_cons _ (List.Sublist.cons_cons _ (List.Sublist.cons_cons _ (List.nil_sublist _)))))) ?_
  refine WC.loop (α := KG) (fun g => g.i ≤ t.kids.length ∧ g.vn.length = g.i ∧ ∀ v ∈ g.vn, v.cells.toList.length = 3) (fun s => [(1, pp b1), (2, pp b2), (3, .slice ad t.kids.length cap), (8, .slice ad t.kids.length cap), (9, .int .i64 (t.kids.length : Int)), (10, .int .i64 (s.i : Int))]) (fun s => [pt b1 [Value.int .u8 t.op, .string (str t.name), .slice a t.kids.length c] 25, pt b2 [Value.int .u8 0, .string (str []), .slice none 0 0] 25, rowc (.slice ad t.kids.length cap) t.kids.length 25 3 (flat (s.vn ++ vs.drop s.i)), ownWL s.F (t.kids.take s.i) s.vn]) (fun g => t.kids.length - g.i) (⟨0, [], []⟩) ?_ ?_ ?_ ?_
  · exact ⟨Nat.zero_le _, rfl, fun v hv => by simp at hv⟩
  · exact ⟨rfl, rfl, rfl, rfl, rfl, rfl, trivial⟩
  · rfl
  rintro ⟨i, Fb, vn⟩ ⟨hi, hvl, hvn3⟩
  dsimp only at hi hvl hvn3
  show WC _ _ _ _ _ _ _ [(1, pp b1), (2, pp b2), (3, .slice ad t.kids.length cap), (8, .slice ad t.kids.length cap), (9, .int .i64 (t.kids.length : Int)), (10, .int .i64 (i : Int))] [pt b1 [Value.int .u8 t.op, .string (str t.name), .slice a t.kids.length c] 25, pt b2 [Value.int .u8 0, .string (str []), .slice none 0 0] 25, rowc (.slice ad t.kids.length cap) t.kids.length 25 3 (flat (vn ++ vs.drop i)), ownWL Fb (t.kids.take i) vn]
  refine WC.seq ?_
  refine WC.region ?_
  refine WL.step ?_
  refine WL.ltI rfl rfl rfl ?_
  refine WL.nil ?_
  refine WQ.then_normal ?_
  refine WC.seq ?_
  refine WC.cond rfl (fun h11 => ?_) (fun h11 => ?_)
  · skip
    have hlt : i < t.kids.length := by simpa using h11
    obtain ⟨k, hk⟩ : ∃ k, t.kids[i]? = some k := ⟨_, List.getElem?_eq_getElem hlt⟩
    obtain ⟨F1, a1, c1, hv1, hrk⟩ := hok.at hk
    have hks := Fm.rowT_kid hk
    have h3 : ∀ v ∈ vn ++ vs.drop i, v.cells.toList.length = 3 := fun v hv => by
      rcases List.mem_append.1 hv with hv | hv
      · exact hvn3 v hv
      · exact NodesOk.three hok v (List.mem_of_mem_drop hv)
    refine WC.know (φ := ∃ g, ad = some ⟨g, 0, none⟩ ∧ t.kids.length = t.kids.length ∧ t.kids.length ≤ cap) (fun w hS => rowc_addr (hS.ok (rowc (.slice ad t.kids.length cap) t.kids.length 25 3 (flat (vn ++ vs.drop i))) (by repeat (first | exact List.Mem.head _ | apply List.Mem.tail))) (by omega)) (fun ⟨g, hg, _, _⟩ => ?_)
    subst hg
    refine WC.skip ?_
    refine WQ.then_normal ?_
    refine WC.seq ?_
    refine WC.block ?_
    refine WC.seq ?_
    refine WC.region ?_
    refine WL.step ?_
    refine WL.move rfl rfl ?_
    refine WL.step ?_
    refine WL.assign rfl rfl ?_
    refine WL.nil ?_
    refine WQ.then_normal ?_
    refine WC.region ?_
    refine WL.step ?_
    refine WL.move rfl rfl ?_
    refine WL.step ?_
    refine WL.move rfl rfl ?_
    refine WL.step ?_
    refine WL.move rfl rfl ?_
    refine WL.step ?_
    refine WL.move rfl rfl ?_
    refine WL.step ?_
    refine WL.indexAddr F.sl23 rfl rfl rfl hlt ?_
    refine WL.step ?_
    refine WL.loadN F.agg25 rfl rfl (vs := [Value.int .u8 k.op, .string (str k.name), .slice a1 k.kids.length c1]) rfl (fun w hS j v hv => by rw [Nat.zero_add]; exact rowc_cells (hS.ok (rowc (.slice (some ⟨g, 0, none⟩) t.kids.length cap) t.kids.length 25 3 (flat (vn ++ vs.drop i))) (by repeat (first | exact List.Mem.head _ | apply List.Mem.tail))) (flat_get h3 (get_mid hvl hv1) hv)) ?_
    refine WL.step ?_
    refine WL.callC (β := List Nat × Option Addr × Nat) (res := fun y => tv k y.2.1 y.2.2) (cs := fun y => [ownW y.1 k (tv k y.2.1 y.2.2)]) (Cs := []) (O' := []) F.fun102 (fun d h => by cases h; rfl) rfl (List.Perm.refl _) (by simp) (by simp) (fun w hS _ => hrec k wb F1 a1 c1 w (by omega) hrk (hE.st hS)) (fun y19 => ?_)
    refine WL.step ?_
    refine WL.indexAddr F.sl23 rfl rfl rfl hlt ?_
    refine WL.step ?_
    refine WL.storeRow F.agg25 rfl rfl (n := t.kids.length) (sz := 3) (cap := cap) (g := g) (e := 25) (xs := flat (vn ++ vs.drop i)) (xs' := flat ((vn ++ vs.drop i).set i (tv k y19.2.1 y19.2.2))) (vs := [Value.int .u8 k.op, .string (str k.name), .slice y19.2.1 k.kids.length y19.2.2]) rfl (by simp [Value.oneCell']) (by omega) (by repeat (first | exact Upd.here | apply Upd.there)) (by rw [Nat.zero_add]; exact SetN.flat3 (u := tv k a1 c1) rfl rfl (v' := tv k y19.2.1 y19.2.2) rfl (get_mid hvl hv1) h3) ?_
    refine WL.nil ?_
    refine WQ.block_normal ?_
    refine WQ.then_normal ?_
    refine WC.region ?_
    refine WL.step ?_
    refine WL.add rfl rfl rfl ⟨by omega, by omega⟩ ?_
    refine WL.step ?_
    refine WL.move rfl rfl ?_
    refine WL.nil ?_
    rw [set_mid hvl (by rw [hok.1]; exact hlt)]
    refine WQ.chunks (C' := [pt b1 [Value.int .u8 t.op, .string (str t.name), .slice a t.kids.length c] 25, pt b2 [Value.int .u8 0, .string (str []), .slice none 0 0] 25, rowc (.slice (some ⟨g, 0, none⟩) t.kids.length cap) t.kids.length 25 3 (flat ((vn ++ [tv k y19.2.1 y19.2.2]) ++ vs.drop (i + 1))), ownWL (Fb ++ y19.1) (t.kids.take i ++ [k]) (vn ++ [tv k y19.2.1 y19.2.2])]) (fun w hS => ?_) ?_
    · have h2 := St.ownWSnoc (St.pick (St.pick hS (c := ownW y19.1 k (tv k y19.2.1 y19.2.2)) (by repeat (first | exact Rem.here | apply Rem.there))) (c := ownWL Fb (t.kids.take i) vn) (by repeat (first | exact Rem.here | apply Rem.there)))
      exact ((St.pick (St.pick (St.pick (St.pick h2 (c := ownWL (Fb ++ y19.1) (t.kids.take i ++ [k]) (vn ++ [tv k y19.2.1 y19.2.2])) (by repeat (first | exact Rem.here | apply Rem.there))) (c := rowc (.slice (some ⟨g, 0, none⟩) t.kids.length cap) t.kids.length 25 3 (flat ((vn ++ [tv k y19.2.1 y19.2.2]) ++ vs.drop (i + 1)))) (by repeat (first | exact Rem.here | apply Rem.there))) (c := pt b2 [Value.int .u8 0, .string (str []), .slice none 0 0] 25) (by repeat (first | exact Rem.here | apply Rem.there))) (c := pt b1 [Value.int .u8 t.op, .string (str t.name), .slice a t.kids.length c] 25) (by repeat (first | exact Rem.here | apply Rem.there)))).sublist (List.Sublist.cons_cons _ (List.Sublist.cons_cons _ (List.Sublist.cons_cons _ (List.Sublist.cons_cons _ (List.nil_sublist _)))))
    have e1 : t.kids.take i ++ [k] = t.kids.take (i + 1) := by rw [List.take_add_one, hk]; rfl
    rw [e1]
    refine WQ.back (⟨i + 1, Fb ++ y19.1, vn ++ [tv k y19.2.1 y19.2.2]⟩) ?_ ?_ ?_ ?_
    · exact ⟨by show i + 1 ≤ _; omega, by show (vn ++ [_]).length = i + 1; simp [hvl], fun v hv => by rcases List.mem_append.1 hv with hv | hv; exact hvn3 v hv; rw [List.mem_singleton] at hv; rw [hv]; rfl⟩
    · (show t.kids.length - (i + 1) < t.kids.length - i; omega)
    · exact ⟨rfl, rfl, rfl, rfl, rfl, rfl, trivial⟩
    · rfl
  · skip
    have hie : i = t.kids.length := by simp at h11; omega
    subst hie
    rw [List.take_length, List.drop_eq_nil_of_le (by rw [hok.1]; exact Nat.le_refl _), List.append_nil]
    refine WC.exit ?_
    refine WQ.then_exit ?_
    refine WQ.then_exit ?_
    refine WQ.block_exit ?_
    refine WQ.then_normal ?_
    refine WC.seq ?_
    refine WC.region ?_
    refine WL.step ?_
    refine WL.move rfl rfl ?_
    refine WL.step ?_
    refine WL.fieldAddr0 F.fld25_2 rfl rfl ?_
    refine WL.step ?_
    refine WL.store1 F.one23 rfl rfl rfl (by repeat (first | exact Upd.here | apply Upd.there)) (by repeat constructor) ?_
    refine WL.nil ?_
    refine WQ.then_normal ?_
    refine WC.seq ?_
    refine WC.region ?_
    refine WL.step ?_
    refine WL.loadW F.agg25 rfl rfl (by repeat (first | exact List.Mem.head _ | apply List.Mem.tail)) rfl ?_
    refine WL.step ?_
    refine WL.storeN F.agg25 rfl rfl rfl (by simp [Value.oneCell']) (by repeat (first | exact Upd.here | apply Upd.there)) (by repeat constructor) ?_
    refine WL.nil ?_
    refine WQ.then_normal ?_
    refine WC.ret ?_
    refine WQ.ret (rs := [.cell 2 25]) rfl (.cellN F.agg25 rfl (by repeat (first | exact List.Mem.head _ | apply List.Mem.tail)) rfl .nil) (fun w hS => ?_)
    obtain ⟨F2, h2⟩ := St.ownWNode (ts := t.kids) t.op t.name rfl (St.pick (St.pick hS (c := ownWL Fb t.kids vn) (by repeat (first | exact Rem.here | apply Rem.there))) (c := rowc (.slice ad t.kids.length cap) t.kids.length 25 3 (flat vn)) (by repeat (first | exact Rem.here | apply Rem.there)))
    rw [show Tree.mk t.op t.name t.kids = t by cases t; rfl] at h2
    exact ⟨(F2, ad, cap), rfl, h2.one1⟩

theorem CloW_c : ∀ n, n ≤ 1099511627776 → CloCW n
  | 0, _ => fun t wb G a c w hsz _ _ => by rw [Fm.rowT_eq] at hsz; simp at hsz
  | n + 1, h => CloW_step n (by omega) (CloW_c n (by omega))

def RepCW (n : Nat) : Prop := ∀ (t u : Tree) (nm : List UInt8) (wb : World) (G H : List Nat) (a a2 : Option Addr) (c c2 : Nat) (w : World), (Fm.rowT t).length ≤ n → (Fm.rowT u).length ≤ 1099511627776 → rdT wb t G (tv t a c) → rdT wb u H (tv u a2 c2) → Ext wb w →
  Calls Try.prog 81 [tv t a c, .string (str nm), tv u a2 c2].toArray w fun e w' => ∃ y : List Nat × Option Addr × Nat, e = .returned (tv (replT nm u t) y.2.1 y.2.2) ∧ St w [] [ownW y.1 (replT nm u t) (tv (replT nm u t) y.2.1 y.2.2)] w'

theorem RepW_step (n : Nat) (hn : n ≤ 1099511627776) (hrec : RepCW n) : RepCW (n + 1) := by
  intro t u nm wb G H a a2 c c2 w hsz husz hr hr2 hE
  obtain ⟨vs, hok, hcells⟩ := rdT_nodes hr
  have hkl := Fm.kids_le t
  refine enter Try.func81 rfl Try.ntmps81 rfl (St.init _) ?_
  refine WC.seq ?_
  refine WC.region ?_
  refine WL.step ?_
  refine WL.boxN rfl rfl (fun b3 => ?_)
  refine WL.step ?_
  refine WL.boxN rfl rfl (fun b5 => ?_)
  refine WL.step ?_
  refine WL.alloc F.zero25 rfl (fun b6 => ?_)
  refine WL.nil ?_
  refine WQ.then_normal ?_
  refine WC.seq ?_
  refine WC.seq ?_
  refine WC.cutF [(17, .bool (t.op == 3 && t.name == nm)), (1, .string (str nm)), (3, pp b3), (5, pp b5), (6, pp b6)] (fun Q' hQ => ?_) ?_
  · skip
    refine WC.region ?_
    refine WL.step ?_
    refine WL.fieldAddr0 F.fld25_0 rfl rfl ?_
    refine WL.step ?_
    refine WL.loadP F.one5 rfl rfl (by repeat (first | exact List.Mem.head _ | apply List.Mem.tail)) rfl ?_
    refine WL.step ?_
    refine WL.eqI rfl rfl rfl ?_
    refine WL.step ?_
    refine WL.move rfl rfl ?_
    refine WA.splitB (i := 12) rfl (fun g12 => ?_) (fun g12 => ?_)
    · skip
      refine WL.step (WL.guardT rfl rfl rfl ?_)
      refine WL.fieldAddr0 F.fld25_1 rfl rfl ?_
      refine WL.step (WL.guardT rfl rfl rfl ?_)
      refine WL.loadP F.one9 rfl rfl (by repeat (first | exact List.Mem.head _ | apply List.Mem.tail)) rfl ?_
      refine WL.step (WL.guardT rfl rfl rfl ?_)
      refine WL.move rfl rfl ?_
      refine WL.step (WL.guardT rfl rfl rfl ?_)
      refine WL.eqS rfl rfl rfl ?_
      refine WL.step ?_
      refine WL.pickT rfl rfl rfl ?_
      refine WL.nil ?_
      refine WQ.byCut hQ (subF_bool ?_ ⟨rfl, rfl, rfl, rfl, trivial⟩ rfl)
      first | (rw [g12, Bool.true_and]) | (rw [g12, Bool.false_and])
    · skip
      refine WL.step (WL.guardF rfl rfl rfl rfl rfl rfl ?_)
      refine WL.step (WL.guardF rfl rfl rfl rfl rfl rfl ?_)
      refine WL.step (WL.guardF rfl rfl rfl rfl rfl rfl ?_)
      refine WL.step (WL.guardF rfl rfl rfl rfl rfl rfl ?_)
      refine WL.step ?_
      refine WL.pickF rfl rfl rfl ?_
      refine WL.nil ?_
      refine WQ.byCut hQ (subF_bool ?_ ⟨rfl, rfl, rfl, rfl, trivial⟩ rfl)
      first | (rw [g12, Bool.true_and]) | (rw [g12, Bool.false_and])
  refine WQ.then_normal ?_
  refine WC.cond rfl (fun h17 => ?_) (fun h17 => ?_)
  · skip
    have hR : replT nm u t = u := by rw [replT_eq, if_pos h17]
    refine WC.seq ?_
    refine WC.region ?_
    refine WL.step ?_
    refine WL.loadW F.agg25 rfl rfl (by repeat (first | exact List.Mem.head _ | apply List.Mem.tail)) rfl ?_
    refine WL.step ?_
    refine WL.callC (β := List Nat × Option Addr × Nat) (res := fun y => tv u y.2.1 y.2.2) (cs := fun y => [ownW y.1 u (tv u y.2.1 y.2.2)]) (Cs := []) (O' := []) F.fun102 (fun d h => by cases h; rfl) rfl (List.Perm.refl _) (by simp) (by simp) (fun w hS _ => CloW_c _ husz u wb H a2 c2 w (Nat.le_refl _) hr2 (hE.st hS)) (fun y19 => ?_)
    refine WL.step ?_
    refine WL.storeN F.agg25 rfl rfl rfl (by simp [Value.oneCell']) (by repeat (first | exact Upd.here | apply Upd.there)) (by repeat constructor) ?_
    refine WL.nil ?_
    refine WQ.then_normal ?_
    refine WC.ret ?_
    refine WQ.then_ret ?_
    refine WQ.ret (rs := [.cell 6 25]) rfl (.cellN F.agg25 rfl (by repeat (first | exact List.Mem.head _ | apply List.Mem.tail)) rfl .nil) (fun w hS => ⟨y19, by rw [hR]; rfl, by rw [hR]; exact ((St.pick hS (c := ownW y19.1 u (tv u y19.2.1 y19.2.2)) (by repeat (first | exact Rem.here | apply Rem.there)))).sublist (List.Sublist.cons_cons _ (List.nil_sublist _))⟩)
  · skip
    have hR : replT nm u t = .mk t.op t.name (t.kids.map (replT nm u)) := by rw [replT_eq, if_neg (by rw [h17]; decide)]
    refine WC.skip ?_
    refine WQ.then_normal ?_
    refine WC.seq ?_
    refine WC.region ?_
    refine WL.step ?_
    refine WL.fieldAddr0 F.fld25_2 rfl rfl ?_
    refine WL.step ?_
    refine WL.loadP F.one23 rfl rfl (by repeat (first | exact List.Mem.head _ | apply List.Mem.tail)) rfl ?_
    refine WL.step ?_
    refine WL.callC (β := Option Addr × Nat) (res := fun y => .slice y.1 t.kids.length y.2) (cs := fun y => [rowc (.slice y.1 t.kids.length y.2) t.kids.length 25 3 (flat vs)]) (Cs := []) (O' := []) F.fun103 (fun d h => by cases h; rfl) rfl (List.Perm.refl _) (by simp) (by simp) (fun w hS _ => CloneE_c t.kids.length vs a c w (by omega) hok.flat_len hok.flat_one (fun h0 => by obtain ⟨b, off, ha, hc⟩ := hcells h0; exact ⟨b, off, ha, fun j u hu => (hE.st hS).cell (hc j u hu)⟩)) (fun x22 => ?_)
    obtain ⟨ad, cap⟩ := x22
    refine WL.step ?_
    refine WL.assign rfl rfl ?_
    refine WL.nil ?_
    refine WQ.then_normal ?_
    refine WC.seq ?_
    refine WC.seq ?_
    refine WC.region ?_
    refine WL.step ?_
    refine WL.move rfl rfl ?_
    refine WL.step ?_
    refine WL.lenSl F.und23 rfl rfl ?_
    refine WL.step ?_
    refine WL.move rfl rfl ?_
    refine WL.nil ?_
    refine WQ.then_normal ?_
    refine WC.block ?_
    refine WC.chunks (fun w hS => hS.ownWNil) ?_
    refine WC.chunks (C' := [pt b3 [Value.int .u8 t.op, .string (str t.name), .slice a t.kids.length c] 25, pt b5 [Value.int .u8 u.op, .string (str u.name), .slice a2 u.kids.length c2] 25, pt b6 [Value.int .u8 0, .string (str []), .slice none 0 0] 25, rowc (.slice ad t.kids.length cap) t.kids.length 25 3 (flat ([] ++ vs.drop 0)), ownWL [] [] []]) (fun w hS => ((St.pick (St.pick (St.pick (St.pick (St.pick hS (c := ownWL [] [] []) (by repeat (first | exact Rem.here | apply Rem.there))) (c := rowc (.slice ad t.kids.length cap) t.kids.length 25 3 (flat vs)) (by repeat (first | exact Rem.here | apply Rem.there))) (c := pt b6 [Value.int .u8 0, .string (str []), .slice none 0 0] 25) (by repeat (first | exact Rem.here | apply Rem.there))) (c := pt b5 [Value.int .u8 u.op, .string (str u.name), .slice a2 u.kids.length c2] 25) (by repeat (first | exact Rem.here | apply Rem.there))) (c := pt b3 [Value.int .u8 t.op, .string (str t.name), .slice a t.kids.length c] 25) (by repeat (first | exact Rem.here | apply Rem.there)))).sublist (List.Sublist.cons_cons _ (List.Sublist.cons_cons _ (List.Sublist.cons_cons _ (List.Sublist.cons_cons _ (List.Sublist.cons_cons _ (List.nil_sublist _))))))) ?_
    refine WC.loop (α := KG) (fun g => g.i ≤ t.kids.length ∧ g.vn.length = g.i ∧ ∀ v ∈ g.vn, v.cells.toList.length = 3) (fun s => [(1, .string (str nm)), (3, pp b3), (5, pp b5), (6, pp b6), (7, .slice ad t.kids.length cap), (23, .slice ad t.kids.length cap), (24, .int .i64 (t.kids.length : Int)), (25, .int .i64 (s.i : Int))]) (fun s => [pt b3 [Value.int .u8 t.op, .string (str t.name), .slice a t.kids.length c] 25, pt b5 [Value.int .u8 u.op, .string (str u.name), .slice a2 u.kids.length c2] 25, pt b6 [Value.int .u8 0, .string (str []), .slice none 0 0] 25, rowc (.slice ad t.kids.length cap) t.kids.length 25 3 (flat (s.vn ++ vs.drop s.i)), ownWL s.F (List.map (replT nm u) (t.kids.take s.i)) s.vn]) (fun g => t.kids.length - g.i) (⟨0, [], []⟩) ?_ ?_ ?_ ?_
    · exact ⟨Nat.zero_le _, rfl, fun v hv => by simp at hv⟩
    · exact ⟨rfl, rfl, rfl, rfl, rfl, rfl, rfl, rfl, trivial⟩
    · rfl
    rintro ⟨i, Fb, vn⟩ ⟨hi, hvl, hvn3⟩
    dsimp only at hi hvl hvn3
    show WC _ _ _ _ _ _ _ [(1, .string (str nm)), (3, pp b3), (5, pp b5), (6, pp b6), (7, .slice ad t.kids.length cap), (23, .slice ad t.kids.length cap), (24, .int .i64 (t.kids.length : Int)), (25, .int .i64 (i : Int))] [pt b3 [Value.int .u8 t.op, .string (str t.name), .slice a t.kids.length c] 25, pt b5 [Value.int .u8 u.op, .string (str u.name), .slice a2 u.kids.length c2] 25, pt b6 [Value.int .u8 0, .string (str []), .slice none 0 0] 25, rowc (.slice ad t.kids.length cap) t.kids.length 25 3 (flat (vn ++ vs.drop i)), ownWL Fb (List.map (replT nm u) (t.kids.take i)) vn]
    refine WC.seq ?_
    refine WC.region ?_
    refine WL.step ?_
    refine WL.ltI rfl rfl rfl ?_
    refine WL.nil ?_
    refine WQ.then_normal ?_
    refine WC.seq ?_
    refine WC.cond rfl (fun h26 => ?_) (fun h26 => ?_)
    · skip
      have hlt : i < t.kids.length := by simpa using h26
      obtain ⟨k, hk⟩ : ∃ k, t.kids[i]? = some k := ⟨_, List.getElem?_eq_getElem hlt⟩
      obtain ⟨F1, a1, c1, hv1, hrk⟩ := hok.at hk
      have hks := Fm.rowT_kid hk
      have h3 : ∀ v ∈ vn ++ vs.drop i, v.cells.toList.length = 3 := fun v hv => by
        rcases List.mem_append.1 hv with hv | hv
        · exact hvn3 v hv
        · exact NodesOk.three hok v (List.mem_of_mem_drop hv)
      refine WC.know (φ := ∃ g, ad = some ⟨g, 0, none⟩ ∧ t.kids.length = t.kids.length ∧ t.kids.length ≤ cap) (fun w hS => rowc_addr (hS.ok (rowc (.slice ad t.kids.length cap) t.kids.length 25 3 (flat (vn ++ vs.drop i))) (by repeat (first | exact List.Mem.head _ | apply List.Mem.tail))) (by omega)) (fun ⟨g, hg, _, _⟩ => ?_)
      subst hg
      refine WC.skip ?_
      refine WQ.then_normal ?_
      refine WC.seq ?_
      refine WC.block ?_
      refine WC.seq ?_
      refine WC.region ?_
      refine WL.step ?_
      refine WL.move rfl rfl ?_
      refine WL.step ?_
      refine WL.assign rfl rfl ?_
      refine WL.nil ?_
      refine WQ.then_normal ?_
      refine WC.drawsL (by kernel_rfl) (FactsOk.cons (ds := [8, 10]) (LoadOk.by (Y := fun w => ∀ j v, [Value.int .u8 k.op, .string (str k.name), .slice a1 k.kids.length c1][j]? = some v → w.cell? ⟨g, 0 + i * 3 + j, none⟩ = some v) (fun w hS => fun j v hv => by rw [Nat.zero_add]; exact rowc_cells (hS.ok (rowc (.slice (some ⟨g, 0, none⟩) t.kids.length cap) t.kids.length 25 3 (flat (vn ++ vs.drop i))) (by repeat (first | exact List.Mem.head _ | apply List.Mem.tail))) (flat_get h3 (get_mid hvl hv1) hv))) (FactsOk.cons (ds := [8, 10]) (LoadOk.whole (t := 5) rfl (by repeat (first | exact List.Mem.head _ | apply List.Mem.tail))) (FactsOk.nil))) ?_
      refine WD.take (i := 0) rfl rfl rfl rfl (by kernel_rfl) (by kernel_rfl) (by kernel_rfl) (fun _ _ _ h => h) (by kernel_rfl) need_none (Yl.move rfl) ?_
      refine WD.take (i := 1) rfl rfl rfl rfl (by kernel_rfl) (by kernel_rfl) (by kernel_rfl) (fun _ _ _ h => h) (by kernel_rfl) need_none (Yl.move rfl) ?_
      refine WD.take (i := 2) rfl rfl rfl rfl (by kernel_rfl) (by kernel_rfl) (by kernel_rfl) (fun _ _ _ h => h) (by kernel_rfl) need_none (Yl.move rfl) ?_
      refine WD.take (i := 3) rfl rfl rfl rfl (by kernel_rfl) (by kernel_rfl) (by kernel_rfl) (fun _ _ _ h => h) (by kernel_rfl) need_none (Yl.move rfl) ?_
      refine WD.take (i := 4) rfl rfl rfl rfl (by kernel_rfl) (by kernel_rfl) (by kernel_rfl) (fun _ _ _ h => h) (by kernel_rfl) need_none (Yl.indexAddr F.sl23 rfl rfl hlt) ?_
      refine WD.take (i := 5) rfl rfl rfl rfl (by kernel_rfl) (by kernel_rfl) (by kernel_rfl) (fun _ _ _ h => h) (by kernel_rfl) (need_at 0 11 rfl (by kernel_rfl)) (Yl.loadN F.agg25 rfl rfl) ?_
      refine WD.take (i := 6) rfl rfl rfl rfl (by kernel_rfl) (by kernel_rfl) (by kernel_rfl) (fun _ _ _ h => h) (by kernel_rfl) need_none (Yl.move rfl) ?_
      refine WD.take (i := 7) rfl rfl rfl rfl (by kernel_rfl) (by kernel_rfl) (by kernel_rfl) (fun _ _ _ h => h) (by kernel_rfl) (need_at 1 11 rfl (by kernel_rfl)) (Yl.loadN F.agg25 rfl rfl) ?_
      refine WD.one (i := 8) (by kernel_rfl) rfl ?_
      refine WL.callC (β := List Nat × Option Addr × Nat) (res := fun y => tv (replT nm u k) y.2.1 y.2.2) (cs := fun y => [ownW y.1 (replT nm u k) (tv (replT nm u k) y.2.1 y.2.2)]) (Cs := []) (O' := []) F.fun81 (fun d h => by cases h; rfl) rfl (List.Perm.refl _) (by simp) (by simp) (fun w hS _ => hrec k u nm wb F1 H a1 a2 c1 c2 w (by omega) husz hrk hr2 (hE.st hS)) (fun y36 => ?_)
      refine WD.on (closed_of (by kernel_rfl)) (fun w hS => Sx.gone rfl (Sx.gone rfl (Sx.none))) ?_
      refine WD.take (i := 9) rfl rfl rfl rfl (by kernel_rfl) (by kernel_rfl) (by kernel_rfl) (fun _ _ _ h => h) (by kernel_rfl) need_none (Yl.indexAddr F.sl23 rfl rfl hlt) ?_
      refine WD.one (i := 10) (by kernel_rfl) rfl ?_
      refine WL.storeRow F.agg25 rfl rfl (n := t.kids.length) (sz := 3) (cap := cap) (g := g) (e := 25) (xs := flat (vn ++ vs.drop i)) (xs' := flat ((vn ++ vs.drop i).set i (tv (replT nm u k) y36.2.1 y36.2.2))) (vs := [Value.int .u8 (replT nm u k).op, .string (str (replT nm u k).name), .slice y36.2.1 (replT nm u k).kids.length y36.2.2]) rfl (by simp [Value.oneCell']) (by omega) (by repeat (first | exact Upd.here | apply Upd.there)) (by rw [Nat.zero_add]; exact SetN.flat3 (u := tv k a1 c1) rfl rfl (v' := (tv (replT nm u k) y36.2.1 y36.2.2)) rfl (get_mid hvl hv1) h3) ?_
      refine WD.on (closed_of (by kernel_rfl)) (fun w hS => Sx.gone rfl (Sx.gone rfl (Sx.none))) ?_
      refine WD.done (by kernel_rfl) ?_
      refine WQ.block_normal ?_
      refine WQ.then_normal ?_
      refine WC.region ?_
      refine WL.step ?_
      refine WL.add rfl rfl rfl ⟨by omega, by omega⟩ ?_
      refine WL.step ?_
      refine WL.move rfl rfl ?_
      refine WL.nil ?_
      rw [set_mid hvl (by rw [hok.1]; exact hlt)]
      refine WQ.chunks (C' := [pt b3 [Value.int .u8 t.op, .string (str t.name), .slice a t.kids.length c] 25, pt b5 [Value.int .u8 u.op, .string (str u.name), .slice a2 u.kids.length c2] 25, pt b6 [Value.int .u8 0, .string (str []), .slice none 0 0] 25, rowc (.slice (some ⟨g, 0, none⟩) t.kids.length cap) t.kids.length 25 3 (flat ((vn ++ [(tv (replT nm u k) y36.2.1 y36.2.2)]) ++ vs.drop (i + 1))), ownWL (Fb ++ y36.1) ((List.map (replT nm u) (t.kids.take i)) ++ [(replT nm u k)]) (vn ++ [(tv (replT nm u k) y36.2.1 y36.2.2)])]) (fun w hS => ?_) ?_
      · have h2 := St.ownWSnoc (St.pick (St.pick hS (c := ownW y36.1 (replT nm u k) (tv (replT nm u k) y36.2.1 y36.2.2)) (by repeat (first | exact Rem.here | apply Rem.there))) (c := ownWL Fb (List.map (replT nm u) (t.kids.take i)) vn) (by repeat (first | exact Rem.here | apply Rem.there)))
        exact ((St.pick (St.pick (St.pick (St.pick (St.pick h2 (c := ownWL (Fb ++ y36.1) ((List.map (replT nm u) (t.kids.take i)) ++ [(replT nm u k)]) (vn ++ [(tv (replT nm u k) y36.2.1 y36.2.2)])) (by repeat (first | exact Rem.here | apply Rem.there))) (c := rowc (.slice (some ⟨g, 0, none⟩) t.kids.length cap) t.kids.length 25 3 (flat ((vn ++ [(tv (replT nm u k) y36.2.1 y36.2.2)]) ++ vs.drop (i + 1)))) (by repeat (first | exact Rem.here | apply Rem.there))) (c := pt b6 [Value.int .u8 0, .string (str []), .slice none 0 0] 25) (by repeat (first | exact Rem.here | apply Rem.there))) (c := pt b5 [Value.int .u8 u.op, .string (str u.name), .slice a2 u.kids.length c2] 25) (by repeat (first | exact Rem.here | apply Rem.there))) (c := pt b3 [Value.int .u8 t.op, .string (str t.name), .slice a t.kids.length c] 25) (by repeat (first | exact Rem.here | apply Rem.there)))).sublist (List.Sublist.cons_cons _ (List.Sublist.cons_cons _ (List.Sublist.cons_cons _ (List.Sublist.cons_cons _ (List.Sublist.cons_cons _ (List.nil_sublist _))))))
      have e1 : (List.map (replT nm u) (t.kids.take i)) ++ [(replT nm u k)] = (List.map (replT nm u) (t.kids.take (i + 1))) := by rw [List.take_add_one, hk]; simp
      rw [e1]
      refine WQ.back (⟨i + 1, Fb ++ y36.1, vn ++ [(tv (replT nm u k) y36.2.1 y36.2.2)]⟩) ?_ ?_ ?_ ?_
      · exact ⟨by show i + 1 ≤ _; omega, by show (vn ++ [_]).length = i + 1; simp [hvl], fun v hv => by rcases List.mem_append.1 hv with hv | hv; exact hvn3 v hv; rw [List.mem_singleton] at hv; rw [hv]; rfl⟩
      · (show t.kids.length - (i + 1) < t.kids.length - i; omega)
      · exact ⟨rfl, rfl, rfl, rfl, rfl, rfl, rfl, rfl, trivial⟩
      · rfl
    · skip
      have hie : i = t.kids.length := by simp at h26; omega
      subst hie
      rw [List.take_length, List.drop_eq_nil_of_le (by rw [hok.1]; exact Nat.le_refl _), List.append_nil]
      refine WC.exit ?_
      refine WQ.then_exit ?_
      refine WQ.then_exit ?_
      refine WQ.block_exit ?_
      refine WQ.then_normal ?_
      refine WC.seq ?_
      refine WC.region ?_
      refine WL.step ?_
      refine WL.move rfl rfl ?_
      refine WL.step ?_
      refine WL.fieldAddr0 F.fld25_2 rfl rfl ?_
      refine WL.step ?_
      refine WL.store1 F.one23 rfl rfl rfl (by repeat (first | exact Upd.here | apply Upd.there)) (by repeat constructor) ?_
      refine WL.nil ?_
      refine WQ.then_normal ?_
      refine WC.seq ?_
      refine WC.region ?_
      refine WL.step ?_
      refine WL.loadW F.agg25 rfl rfl (by repeat (first | exact List.Mem.head _ | apply List.Mem.tail)) rfl ?_
      refine WL.step ?_
      refine WL.storeN F.agg25 rfl rfl rfl (by simp [Value.oneCell']) (by repeat (first | exact Upd.here | apply Upd.there)) (by repeat constructor) ?_
      refine WL.nil ?_
      refine WQ.then_normal ?_
      refine WC.ret ?_
      refine WQ.ret (rs := [.cell 6 25]) rfl (.cellN F.agg25 rfl (by repeat (first | exact List.Mem.head _ | apply List.Mem.tail)) rfl .nil) (fun w hS => ?_)
      obtain ⟨F2, h2⟩ := St.ownWNode (ts := t.kids.map (replT nm u)) t.op t.name (by simp) (St.pick (St.pick hS (c := ownWL Fb (List.map (replT nm u) t.kids) vn) (by repeat (first | exact Rem.here | apply Rem.there))) (c := rowc (.slice ad t.kids.length cap) t.kids.length 25 3 (flat vn)) (by repeat (first | exact Rem.here | apply Rem.there)))
      have e9 : (Value.agg [Value.int .u8 t.op, .string (str t.name), .slice ad t.kids.length cap].toArray) = tv (replT nm u t) ad cap := by rw [hR]; simp [tv, Tree.op, Tree.name, Tree.kids]
      rw [← hR] at h2
      refine ⟨(F2, ad, cap), congrArg Ending.returned e9, ?_⟩
      show St _ [] [ownW F2 (replT nm u t) (tv (replT nm u t) ad cap)] w
      rw [← e9]
      exact h2.one1

theorem RepW_c : ∀ n, n ≤ 1099511627776 → RepCW n
  | 0, _ => fun t u nm wb G H a a2 c c2 w hsz => by rw [Fm.rowT_eq] at hsz; simp at hsz
  | n + 1, h => RepW_step n (by omega) (RepW_c n (by omega))

theorem ReplaceW_c (t u : Tree) (nm : List UInt8) (wb : World) (G H : List Nat) (a a2 : Option Addr) (c c2 : Nat) (hr : rdT wb t G (tv t a c)) (hr2 : rdT wb u H (tv u a2 c2)) :
    Calls Try.prog 40 [tv t a c, .string (str nm), tv u a2 c2].toArray wb fun e w' => ∃ y : List Nat × Option Addr × Nat, e = .returned (.tuple #[tv (repE nm u t).1 y.2.1 y.2.2, .int .i64 (repE nm u t).2]) ∧ St wb [] [ownW y.1 (repE nm u t).1 (tv (repE nm u t).1 y.2.1 y.2.2)] w' := by
  refine enter Try.func40 rfl Try.ntmps40 rfl (St.init _) ?_
  refine WC.seq ?_
  refine WC.region ?_
  refine WL.step ?_
  refine WL.boxN rfl rfl (fun b3 => ?_)
  refine WL.step ?_
  refine WL.box1 rfl rfl rfl (fun b4 => ?_)
  refine WL.step ?_
  refine WL.boxN rfl rfl (fun b5 => ?_)
  refine WL.step ?_
  refine WL.alloc F.zero25 rfl (fun b6 => ?_)
  refine WL.step ?_
  refine WL.assign rfl rfl ?_
  refine WL.nil ?_
  refine WQ.then_normal ?_
  refine WC.seq ?_
  refine WC.block ?_
  refine WC.seq ?_
  refine WC.cutF [(13, .bool (!Fm.validB t || !Fm.validB u)), (3, pp b3), (4, pp b4), (5, pp b5), (6, pp b6), (7, .int .i64 0)] (fun Q' hQ => ?_) ?_
  · skip
    refine WC.region ?_
    refine WL.step ?_
    refine WL.loadW F.agg25 rfl rfl (by repeat (first | exact List.Mem.head _ | apply List.Mem.tail)) rfl ?_
    refine WL.step ?_
    refine WL.callV F.fun30 rfl rfl (fun w hS => Valid_c t G a c w (((Ext.refl wb).st hS).tree hr)) ?_
    refine WL.step ?_
    refine WL.not rfl rfl ?_
    refine WL.step ?_
    refine WL.move rfl rfl ?_
    refine WA.splitB (i := 17) rfl (fun g17 => ?_) (fun g17 => ?_)
    · skip
      refine WL.step (WL.guardF rfl rfl rfl rfl rfl rfl ?_)
      refine WL.step (WL.guardF rfl rfl rfl rfl rfl rfl ?_)
      refine WL.step (WL.guardF rfl rfl rfl rfl rfl rfl ?_)
      refine WL.step ?_
      refine WL.pickT rfl rfl rfl ?_
      refine WL.step ?_
      refine WL.assign rfl rfl ?_
      refine WL.nil ?_
      refine WQ.byCut hQ (subF_bool ?_ ⟨rfl, rfl, rfl, rfl, rfl, trivial⟩ rfl)
      first | (rw [g17, Bool.true_or]) | (rw [g17, Bool.false_or])
    · skip
      refine WL.step (WL.guardT rfl rfl rfl ?_)
      refine WL.loadW F.agg25 rfl rfl (by repeat (first | exact List.Mem.head _ | apply List.Mem.tail)) rfl ?_
      refine WL.step (WL.guardT rfl rfl rfl ?_)
      refine WL.callV F.fun30 rfl rfl (fun w hS => Valid_c u H a2 c2 w (((Ext.refl wb).st hS).tree hr2)) ?_
      refine WL.step (WL.guardT rfl rfl rfl ?_)
      refine WL.not rfl rfl ?_
      refine WL.step ?_
      refine WL.pickF rfl rfl rfl ?_
      refine WL.step ?_
      refine WL.assign rfl rfl ?_
      refine WL.nil ?_
      refine WQ.byCut hQ (subF_bool ?_ ⟨rfl, rfl, rfl, rfl, rfl, trivial⟩ rfl)
      first | (rw [g17, Bool.true_or]) | (rw [g17, Bool.false_or])
  refine WQ.then_normal ?_
  refine WC.cond rfl (fun h13 => ?_) (fun h13 => ?_)
  · skip
    have hres : repE nm u t = (Fm.zeroTree, 2) := by unfold repE; rw [if_pos h13]
    refine WC.seq ?_
    refine WC.region ?_
    refine WL.step ?_
    refine WL.build F.stT25 rfl (by repeat (first | exact Built.nil | apply Built.one rfl rfl (by repeat constructor) | apply Built.agg rfl rfl (by repeat constructor))) rfl ?_
    refine WL.step ?_
    refine WL.storeN F.agg25 rfl rfl rfl (by simp [Value.oneCell']) (by repeat (first | exact Upd.here | apply Upd.there)) (by repeat constructor) ?_
    refine WL.step ?_
    refine WL.assign rfl rfl ?_
    refine WL.nil ?_
    refine WQ.then_normal ?_
    refine WC.ret ?_
    refine WQ.block_ret ?_
    refine WQ.then_ret ?_
    refine WQ.ret (rs := [.cell 6 25, .tmp 7]) rfl (.cellN F.agg25 rfl (by repeat (first | exact List.Mem.head _ | apply List.Mem.tail)) rfl (.tmp rfl .nil)) (fun w hS => ⟨([], none, 0), by rw [hres]; rfl, ?_⟩)
    rw [hres]
    exact (St.ownW0 0 [] hS).one1
  · skip
    have hvt : Fm.validB t = true := by (simp at h13; exact h13.1)
    have hvu : Fm.validB u = true := by (simp at h13; exact h13.2)
    have hs1 := (valid_all hvt).2
    have hs2 := (valid_all hvu).2
    have hu1 : 1 ≤ (Fm.rowT u).length := by rw [Fm.rowT_eq]; simp
    refine WC.seq ?_
    refine WC.region ?_
    refine WL.step ?_
    refine WL.loadP F.one9 rfl rfl (by repeat (first | exact List.Mem.head _ | apply List.Mem.tail)) rfl ?_
    refine WL.step ?_
    refine WL.callV F.fun79 rfl rfl (fun w _ => isName_c nm w) ?_
    refine WL.step ?_
    refine WL.not rfl rfl ?_
    refine WL.step ?_
    refine WL.assign rfl rfl ?_
    refine WL.nil ?_
    refine WQ.then_normal ?_
    refine WC.cond rfl (fun h23 => ?_) (fun h23 => ?_)
    · skip
      have hres : repE nm u t = (Fm.zeroTree, 6) := by unfold repE; rw [if_neg (by rw [h13]; decide), if_pos h23]
      refine WC.seq ?_
      refine WC.region ?_
      refine WL.step ?_
      refine WL.build F.stT25 rfl (by repeat (first | exact Built.nil | apply Built.one rfl rfl (by repeat constructor) | apply Built.agg rfl rfl (by repeat constructor))) rfl ?_
      refine WL.step ?_
      refine WL.storeN F.agg25 rfl rfl rfl (by simp [Value.oneCell']) (by repeat (first | exact Upd.here | apply Upd.there)) (by repeat constructor) ?_
      refine WL.step ?_
      refine WL.assign rfl rfl ?_
      refine WL.nil ?_
      refine WQ.then_normal ?_
      refine WC.ret ?_
      refine WQ.block_ret ?_
      refine WQ.then_ret ?_
      refine WQ.ret (rs := [.cell 6 25, .tmp 7]) rfl (.cellN F.agg25 rfl (by repeat (first | exact List.Mem.head _ | apply List.Mem.tail)) rfl (.tmp rfl .nil)) (fun w hS => ⟨([], none, 0), by rw [hres]; rfl, ?_⟩)
      rw [hres]
      exact (St.ownW0 0 [] hS).one1
    · skip
      refine WC.skip ?_
      refine WQ.block_normal ?_
      refine WQ.then_normal ?_
      refine WC.seq ?_
      refine WC.region ?_
      refine WL.step ?_
      refine WL.loadW F.agg25 rfl rfl (by repeat (first | exact List.Mem.head _ | apply List.Mem.tail)) rfl ?_
      refine WL.step ?_
      refine WL.callV F.fun35 rfl rfl (fun w hS => Size_c 1000 (by decide) t wb G a c w hs1 hr ((Ext.refl wb).st hS)) ?_
      refine WL.step ?_
      refine WL.move rfl rfl ?_
      refine WL.step ?_
      refine WL.extract rfl rfl rfl ?_
      refine WL.step ?_
      refine WL.extract rfl rfl rfl ?_
      refine WL.step ?_
      refine WL.alloc F.zero3 rfl (fun b8 => ?_)
      refine WL.step ?_
      refine WL.store1 F.one3 rfl rfl rfl (by repeat (first | exact Upd.here | apply Upd.there)) (by repeat constructor) ?_
      refine WL.step ?_
      refine WL.assign rfl rfl ?_
      refine WL.nil ?_
      refine WQ.then_normal ?_
      refine WC.seq ?_
      refine WC.region ?_
      refine WL.step ?_
      refine WL.loadW F.agg25 rfl rfl (by repeat (first | exact List.Mem.head _ | apply List.Mem.tail)) rfl ?_
      refine WL.step ?_
      refine WL.callV F.fun35 rfl rfl (fun w hS => Size_c 1000 (by decide) u wb H a2 c2 w hs2 hr2 ((Ext.refl wb).st hS)) ?_
      refine WL.step ?_
      refine WL.move rfl rfl ?_
      refine WL.step ?_
      refine WL.extract rfl rfl rfl ?_
      refine WL.step ?_
      refine WL.extract rfl rfl rfl ?_
      refine WL.step ?_
      refine WL.alloc F.zero3 rfl (fun b10 => ?_)
      refine WL.step ?_
      refine WL.store1 F.one3 rfl rfl rfl (by repeat (first | exact Upd.here | apply Upd.there)) (by repeat constructor) ?_
      refine WL.step ?_
      refine WL.assign rfl rfl ?_
      refine WL.nil ?_
      refine WQ.then_normal ?_
      refine WC.seq ?_
      refine WC.region ?_
      refine WL.step ?_
      refine WL.loadW F.agg25 rfl rfl (by repeat (first | exact List.Mem.head _ | apply List.Mem.tail)) rfl ?_
      refine WL.step ?_
      refine WL.makeFunc rfl rfl rfl ?_
      obtain ⟨d, hd⟩ : ∃ d : Int, ((Fm.rowT u).length : Int) = d + 1 := ⟨((Fm.rowT u).length : Int) - 1, by omega⟩
      rw [hd]
      have hdb : 0 ≤ d ∧ d ≤ 2000 := by omega
      have htot : ((Fm.rowT t).foldl (stepR nm d) ((Fm.rowT t).length : Int)) = ((Fm.rowT (replT nm u t)).length : Int) := by
        have h9 := fold_T (nm := nm) (u := u) t ((Fm.rowT t).length : Int) (valid_leaf hvt)
        rw [hd, show d + 1 - 1 = d by omega] at h9
        rw [h9]; omega
      refine WL.step ?_
      refine WA.chunks (C' := [pt b4 [.string (str nm)] 9, pt b8 [.int .i64 ((Fm.rowT t).length : Int)] 3, pt b10 [.int .i64 (d + 1)] 3, pt b3 [Value.int .u8 t.op, .string (str t.name), .slice a t.kids.length c] 25, pt b5 [Value.int .u8 u.op, .string (str u.name), .slice a2 u.kids.length c2] 25, pt b6 [Value.int .u8 0, .string (str []), .slice none 0 0] 25]) (fun w hS => ((St.pick (St.pick (St.pick (St.pick (St.pick (St.pick hS (c := pt b6 [Value.int .u8 0, .string (str []), .slice none 0 0] 25) (by repeat (first | exact Rem.here | apply Rem.there))) (c := pt b5 [Value.int .u8 u.op, .string (str u.name), .slice a2 u.kids.length c2] 25) (by repeat (first | exact Rem.here | apply Rem.there))) (c := pt b3 [Value.int .u8 t.op, .string (str t.name), .slice a t.kids.length c] 25) (by repeat (first | exact Rem.here | apply Rem.there))) (c := pt b10 [.int .i64 (d + 1)] 3) (by repeat (first | exact Rem.here | apply Rem.there))) (c := pt b8 [.int .i64 ((Fm.rowT t).length : Int)] 3) (by repeat (first | exact Rem.here | apply Rem.there))) (c := pt b4 [.string (str nm)] 9) (by repeat (first | exact Rem.here | apply Rem.there)))).sublist (List.Sublist.cons_cons _ (List.Sublist.cons_cons _ (List.Sublist.cons_cons _ (List.Sublist.cons_cons _ (List.Sublist.cons_cons _ (List.Sublist.cons_cons _ (List.nil_sublist _)))))))) ?_
      refine WL.callC (β := Unit) (res := fun _ => .tuple #[]) (cs := fun _ => [pt b4 [.string (str nm)] 9, pt b8 [.int .i64 ((Fm.rowT t).foldl (stepR nm d) ((Fm.rowT t).length : Int))] 3, pt b10 [.int .i64 (d + 1)] 3]) (Cs := [pt b4 [.string (str nm)] 9, pt b8 [.int .i64 ((Fm.rowT t).length : Int)] 3, pt b10 [.int .i64 (d + 1)] 3]) (C1 := [pt b3 [Value.int .u8 t.op, .string (str t.name), .slice a t.kids.length c] 25, pt b5 [Value.int .u8 u.op, .string (str u.name), .slice a2 u.kids.length c2] 25, pt b6 [Value.int .u8 0, .string (str []), .slice none 0 0] 25]) (O' := [b4, b8, b10]) F.fun76 (fun d h => by cases h; rfl) rfl (List.Perm.refl _) RqC_O1 (RqC_O2 (nm := nm) (acc := ((Fm.rowT t).length : Int)) (d := d)) (fun w hS hS2 => WalkR_c 1000 (by decide) t G a c nm _ d b4 b8 b10 w _ hs1 hdb (by omega) (hS.oldT hr (fun z hz => ⟨rdT_lt hr z hz, by simp⟩)) (fun z hz => RqC_sep (nm := nm) (acc := ((Fm.rowT t).length : Int)) (d := d) hS (rdT_lt hr z hz) (by simp)) hS2) (fun x40 => ?_)
      refine WL.nil ?_
      refine WQ.then_normal ?_
      refine WC.seq ?_
      refine WC.seq ?_
      refine WC.region ?_
      refine WL.step ?_
      refine WL.loadP F.one3 rfl rfl (by repeat (first | exact List.Mem.head _ | apply List.Mem.tail)) rfl ?_
      refine WL.step ?_
      refine WL.gtI rfl rfl rfl ?_
      refine WL.nil ?_
      refine WQ.then_normal ?_
      refine WC.cond rfl (fun h42 => ?_) (fun h42 => ?_)
      · skip
        have hres : repE nm u t = (Fm.zeroTree, 5) := by
          have h9 : ¬ Fm.validB (replT nm u t) = true := fun hv => by
            have := (valid_all hv).2
            rw [htot] at h42; simp at h42; omega
          unfold repE; rw [if_neg (by rw [h13]; decide), if_neg (by rw [h23]; decide), if_neg h9]
        refine WC.seq ?_
        refine WC.region ?_
        refine WL.step ?_
        refine WL.build F.stT25 rfl (by repeat (first | exact Built.nil | apply Built.one rfl rfl (by repeat constructor) | apply Built.agg rfl rfl (by repeat constructor))) rfl ?_
        refine WL.step ?_
        refine WL.storeN F.agg25 rfl rfl rfl (by simp [Value.oneCell']) (by repeat (first | exact Upd.here | apply Upd.there)) (by repeat constructor) ?_
        refine WL.step ?_
        refine WL.assign rfl rfl ?_
        refine WL.nil ?_
        refine WQ.then_normal ?_
        refine WC.ret ?_
        refine WQ.then_ret ?_
        refine WQ.ret (rs := [.cell 6 25, .tmp 7]) rfl (.cellN F.agg25 rfl (by repeat (first | exact List.Mem.head _ | apply List.Mem.tail)) rfl (.tmp rfl .nil)) (fun w hS => ⟨([], none, 0), by rw [hres]; rfl, ?_⟩)
        rw [hres]
        exact (St.ownW0 0 [] hS).one1
      · skip
        refine WC.skip ?_
        refine WQ.then_normal ?_
        refine WC.seq ?_
        refine WC.region ?_
        refine WL.step ?_
        refine WL.loadW F.agg25 rfl rfl (by repeat (first | exact List.Mem.head _ | apply List.Mem.tail)) rfl ?_
        refine WL.step ?_
        refine WL.loadP F.one9 rfl rfl (by repeat (first | exact List.Mem.head _ | apply List.Mem.tail)) rfl ?_
        refine WL.step ?_
        refine WL.loadW F.agg25 rfl rfl (by repeat (first | exact List.Mem.head _ | apply List.Mem.tail)) rfl ?_
        refine WL.step ?_
        refine WL.callC (β := List Nat × Option Addr × Nat) (res := fun y => tv (replT nm u t) y.2.1 y.2.2) (cs := fun y => [ownW y.1 (replT nm u t) (tv (replT nm u t) y.2.1 y.2.2)]) (Cs := []) (O' := []) F.fun81 (fun d h => by cases h; rfl) rfl (List.Perm.refl _) (by simp) (by simp) (fun w hS _ => RepW_c 1000 (by decide) t u nm wb G H a a2 c c2 w hs1 (by omega) hr hr2 ((Ext.refl wb).st hS)) (fun y47 => ?_)
        refine WL.step ?_
        refine WL.alloc F.zero25 rfl (fun b12 => ?_)
        refine WL.step ?_
        refine WL.storeN F.agg25 rfl rfl rfl (by simp [Value.oneCell']) (by repeat (first | exact Upd.here | apply Upd.there)) (by repeat constructor) ?_
        refine WL.nil ?_
        refine WQ.then_normal ?_
        refine WC.seq ?_
        refine WC.seq ?_
        refine WC.region ?_
        refine WL.step ?_
        refine WL.loadW F.agg25 rfl rfl (by repeat (first | exact List.Mem.head _ | apply List.Mem.tail)) rfl ?_
        refine WL.step ?_
        refine WL.callV F.fun30 rfl rfl (fun w hS => Valid_c (replT nm u t) y47.1 y47.2.1 y47.2.2 w (rdW_T (hS.ok (ownW y47.1 (replT nm u t) (tv (replT nm u t) y47.2.1 y47.2.2)) (by repeat (first | exact List.Mem.head _ | apply List.Mem.tail))).2)) ?_
        refine WL.step ?_
        refine WL.not rfl rfl ?_
        refine WL.nil ?_
        refine WQ.then_normal ?_
        refine WC.cond rfl (fun h50 => ?_) (fun h50 => ?_)
        · skip
          have hres : repE nm u t = (Fm.zeroTree, 5) := by
            unfold repE; rw [if_neg (by rw [h13]; decide), if_neg (by rw [h23]; decide), if_neg (by simpa using h50)]
          refine WC.seq ?_
          refine WC.region ?_
          refine WL.step ?_
          refine WL.build F.stT25 rfl (by repeat (first | exact Built.nil | apply Built.one rfl rfl (by repeat constructor) | apply Built.agg rfl rfl (by repeat constructor))) rfl ?_
          refine WL.step ?_
          refine WL.storeN F.agg25 rfl rfl rfl (by simp [Value.oneCell']) (by repeat (first | exact Upd.here | apply Upd.there)) (by repeat constructor) ?_
          refine WL.step ?_
          refine WL.assign rfl rfl ?_
          refine WL.nil ?_
          refine WQ.then_normal ?_
          refine WC.ret ?_
          refine WQ.then_ret ?_
          refine WQ.ret (rs := [.cell 6 25, .tmp 7]) rfl (.cellN F.agg25 rfl (by repeat (first | exact List.Mem.head _ | apply List.Mem.tail)) rfl (.tmp rfl .nil)) (fun w hS => ⟨([], none, 0), by rw [hres]; rfl, ?_⟩)
          rw [hres]
          exact (St.ownW0 0 [] hS).one1
        · skip
          have hres : repE nm u t = (replT nm u t, 0) := by
            unfold repE; rw [if_neg (by rw [h13]; decide), if_neg (by rw [h23]; decide), if_pos (by simpa using h50)]
          refine WC.skip ?_
          refine WQ.then_normal ?_
          refine WC.seq ?_
          refine WC.region ?_
          refine WL.step ?_
          refine WL.loadW F.agg25 rfl rfl (by repeat (first | exact List.Mem.head _ | apply List.Mem.tail)) rfl ?_
          refine WL.step ?_
          refine WL.storeN F.agg25 rfl rfl rfl (by simp [Value.oneCell']) (by repeat (first | exact Upd.here | apply Upd.there)) (by repeat constructor) ?_
          refine WL.step ?_
          refine WL.assign rfl rfl ?_
          refine WL.nil ?_
          refine WQ.then_normal ?_
          refine WC.ret ?_
          refine WQ.ret (rs := [.cell 6 25, .tmp 7]) rfl (.cellN F.agg25 rfl (by repeat (first | exact List.Mem.head _ | apply List.Mem.tail)) rfl (.tmp rfl .nil)) (fun w hS => ⟨y47, by rw [hres]; rfl, ?_⟩)
          rw [hres]
          exact ((St.pick hS (c := ownW y47.1 (replT nm u t) (tv (replT nm u t) y47.2.1 y47.2.2)) (by repeat (first | exact Rem.here | apply Rem.there)))).sublist (List.Sublist.cons_cons _ (List.nil_sublist _))

end Go.Proofs.Ytbippghgkbapnaa

namespace Go.Proofs.Ytbippghgkbapnaa
open Go Go.Eng Go.Proofs
mutual
def spK : Tree → Tree
  | .mk op name kids => .mk op (name ++ [120]) (spL kids)
def spL : List Tree → List Tree
  | [] => []
  | k :: ks => spK k :: spL ks
end
theorem spL_map : ∀ ks : List Tree, spL ks = ks.map spK
  | [] => by simp [spL]
  | k :: ks => by simp [spL, spL_map ks]
def spT (t : Tree) : Tree := .mk t.op t.name (t.kids.map spK)
theorem spK_eq (k : Tree) : spK k = .mk k.op (k.name ++ [120]) (k.kids.map spK) := by
  cases k with
  | mk op name kids => simp only [spK, spL_map]; rfl
theorem spT_ren (k : Tree) : spT (.mk k.op (k.name ++ [120]) k.kids) = spK k := by rw [spK_eq]; rfl
def SpoC (n : Nat) : Prop := ∀ (op : Int) (name : List UInt8) (kids : List Tree) (Ft : List Nat) (a : Option Addr) (c : Nat) (w : World) (O : List Nat), (Fm.rowL kids).length < n → (∀ k ∈ Fm.rowL kids, k.name.length ≤ 1000000) → St w O [ownW Ft (.mk op name kids) (tv (.mk op name kids) a c)] w →
  Calls Try.prog 43 [tv (.mk op name kids) a c].toArray w fun e w' => ∃ x : List Nat, e = .returned (.tuple #[]) ∧ St w O [ownW x (spT (.mk op name kids)) (tv (spT (.mk op name kids)) a c)] w'
structure SP where
  i : Nat
  Gd : List Nat
  Gr : List Nat
  vd : List Value
  vr : List Value
theorem drop_kid {ks : List Tree} {i : Nat} {k : Tree} (h : ks[i]? = some k) : ks.drop i = k :: ks.drop (i + 1) := by
  obtain ⟨hi, he⟩ := List.getElem?_eq_some_iff.1 h
  rw [List.drop_eq_getElem_cons hi, he]
theorem rowL_mem {ks : List Tree} {k : Tree} (h : k ∈ ks) : ∀ x ∈ Fm.rowT k, x ∈ Fm.rowL ks := by
  induction ks with
  | nil => cases h
  | cons k0 ks ih =>
    intro x hx
    simp only [Fm.rowL, List.mem_append]
    rcases List.mem_cons.1 h with rfl | h
    · exact .inl hx
    · exact .inr (ih h x hx)
theorem kids_rowL : ∀ ks : List Tree, ks.length ≤ (Fm.rowL ks).length
  | [] => Nat.zero_le _
  | k :: ks => by
    have := kids_rowL ks
    simp only [Fm.rowL, List.length_append, List.length_cons]
    rw [Fm.rowT_eq, List.length_cons]; omega
theorem rowL_len {ks : List Tree} {k : Tree} (h : k ∈ ks) : (Fm.rowT k).length ≤ (Fm.rowL ks).length := by
  induction ks with
  | nil => cases h
  | cons k0 ks ih =>
    simp only [Fm.rowL, List.length_append]
    rcases List.mem_cons.1 h with rfl | h
    · omega
    · have := ih h; omega

theorem Spo_step (n : Nat) (hn : n ≤ 1099511627776) (hrec : SpoC n) : SpoC (n + 1) := by
  intro op name kids Ft a c w O hsz hnm hS0
  have hkl := kids_rowL kids
  refine enter Try.func43 rfl Try.ntmps43 rfl (C := [ownW Ft (.mk op name kids) (tv (.mk op name kids) a c)]) hS0 ?_
  refine WC.seq ?_
  refine WC.region ?_
  refine WL.step ?_
  refine WL.boxN rfl rfl (fun b1 => ?_)
  refine WL.nil ?_
  refine WQ.then_normal ?_
  refine WC.seq ?_
  by_cases hne : kids = []
  · skip
    subst hne
    refine WC.region ?_
    refine WL.step ?_
    refine WL.assign rfl rfl ?_
    refine WL.nil ?_
    refine WQ.then_normal ?_
    refine WC.block ?_
    refine WC.loop (α := Unit) (fun _ => True) (fun _ => [(1, pp b1), (2, .int .i64 0)]) (fun _ => [pt b1 [Value.int .u8 op, .string (str name), .slice a 0 c] 25, ownW Ft (.mk op name []) (tv (.mk op name []) a c)]) (fun _ => 0) (()) ?_ ?_ ?_ ?_
    · exact trivial
    · exact ⟨rfl, rfl, trivial⟩
    · rfl
    rintro u0 _
    refine WC.seq ?_
    refine WC.seq ?_
    refine WC.region ?_
    refine WL.step ?_
    refine WL.move rfl rfl ?_
    refine WL.step ?_
    refine WL.fieldAddr0 F.fld25_2 rfl rfl ?_
    refine WL.step ?_
    refine WL.loadP F.one23 rfl rfl (by repeat (first | exact List.Mem.head _ | apply List.Mem.tail)) rfl ?_
    refine WL.step ?_
    refine WL.lenSl F.und23 rfl rfl ?_
    refine WL.step ?_
    refine WL.ltI rfl rfl rfl ?_
    refine WL.nil ?_
    refine WQ.then_normal ?_
    refine WC.cond rfl (fun h7 => ?_) (fun h7 => ?_)
    · skip
      simp at h7
    · skip
      refine WC.exit ?_
      refine WQ.then_exit ?_
      refine WQ.then_exit ?_
      refine WQ.block_exit ?_
      refine WQ.fin (rs := []) rfl .nil (fun w hS => ⟨Ft, rfl, ?_⟩)
      exact ((St.pick hS (c := ownW Ft (.mk op name []) (tv (.mk op name []) a c)) (by repeat (first | exact Rem.here | apply Rem.there)))).sublist (List.Sublist.cons_cons _ (List.nil_sublist _))
  · skip
    refine WC.chunksE (α := { x : Nat × List Nat × List Value // a = some ⟨x.1, 0, none⟩ ∧ x.2.2.length = kids.length ∧ ∀ v ∈ x.2.2, v.cells.toList.length = 3 }) (C' := fun x => [rowc (.slice (some ⟨x.1.1, 0, none⟩) kids.length c) kids.length 25 3 (flat ([] ++ x.1.2.2)), ownWL [] (List.map spK (kids.take 0)) [], ownWL x.1.2.1 (kids.drop 0) x.1.2.2, pt b1 [Value.int .u8 op, .string (str name), .slice a kids.length c] 25]) (fun w hS => ?_) (fun x => ?_)
    · obtain ⟨g, G, vs, h1, h2, h3, h4⟩ := St.ownWOpen hne (St.pick hS (c := ownW Ft (.mk op name kids) (tv (.mk op name kids) a c)) (by repeat (first | exact Rem.here | apply Rem.there)))
      refine ⟨⟨(g, G, vs), h1, h3, NodesOk.three (rdL_nodes (rdWL_L ((h4.ok (ownWL G kids vs) (by repeat (first | exact List.Mem.head _ | apply List.Mem.tail))).2)))⟩, ?_⟩
      have h5 := h4.ownWNil
      exact ((St.pick (St.pick (St.pick (St.pick h5 (c := pt b1 [Value.int .u8 op, .string (str name), .slice a kids.length c] 25) (by repeat (first | exact Rem.here | apply Rem.there))) (c := ownWL G kids vs) (by repeat (first | exact Rem.here | apply Rem.there))) (c := ownWL [] [] []) (by repeat (first | exact Rem.here | apply Rem.there))) (c := rowc (.slice (some ⟨g, 0, none⟩) kids.length c) kids.length 25 3 (flat vs)) (by repeat (first | exact Rem.here | apply Rem.there)))).sublist (List.Sublist.cons_cons _ (List.Sublist.cons_cons _ (List.Sublist.cons_cons _ (List.Sublist.cons_cons _ (List.nil_sublist _)))))
    obtain ⟨⟨g, G, vs⟩, hga, hvs, hv3⟩ := x
    simp only at hga hvs hv3
    subst hga
    refine WC.region ?_
    refine WL.step ?_
    refine WL.assign rfl rfl ?_
    refine WL.nil ?_
    refine WQ.then_normal ?_
    refine WC.block ?_
    refine WC.loop (α := SP) (fun s => s.i ≤ kids.length ∧ s.vd.length = s.i ∧ ∀ v ∈ s.vd ++ s.vr, v.cells.toList.length = 3) (fun s => [(1, pp b1), (2, .int .i64 (s.i : Int))]) (fun s => [rowc (.slice (some ⟨g, 0, none⟩) kids.length c) kids.length 25 3 (flat (s.vd ++ s.vr)), ownWL s.Gd (List.map spK (kids.take s.i)) s.vd, ownWL s.Gr (kids.drop s.i) s.vr, pt b1 [Value.int .u8 op, .string (str name), .slice (some ⟨g, 0, none⟩) kids.length c] 25]) (fun s => kids.length - s.i) (⟨0, [], G, [], vs⟩) ?_ ?_ ?_ ?_
    · exact ⟨Nat.zero_le _, rfl, by simpa using hv3⟩
    · exact ⟨rfl, rfl, trivial⟩
    · rfl
    rintro ⟨i, Gd, Gr, vd, vr⟩ ⟨hi, hvd, h3⟩
    dsimp only at hi hvd h3
    show WC _ _ _ _ _ _ _ [(1, pp b1), (2, .int .i64 (i : Int))] [rowc (.slice (some ⟨g, 0, none⟩) kids.length c) kids.length 25 3 (flat (vd ++ vr)), ownWL Gd (List.map spK (kids.take i)) vd, ownWL Gr (kids.drop i) vr, pt b1 [Value.int .u8 op, .string (str name), .slice (some ⟨g, 0, none⟩) kids.length c] 25]
    refine WC.seq ?_
    refine WC.seq ?_
    refine WC.region ?_
    refine WL.step ?_
    refine WL.move rfl rfl ?_
    refine WL.step ?_
    refine WL.fieldAddr0 F.fld25_2 rfl rfl ?_
    refine WL.step ?_
    refine WL.loadP F.one23 rfl rfl (by repeat (first | exact List.Mem.head _ | apply List.Mem.tail)) rfl ?_
    refine WL.step ?_
    refine WL.lenSl F.und23 rfl rfl ?_
    refine WL.step ?_
    refine WL.ltI rfl rfl rfl ?_
    refine WL.nil ?_
    refine WQ.then_normal ?_
    refine WC.cond rfl (fun h7 => ?_) (fun h7 => ?_)
    · skip
      have hlt : i < kids.length := by simpa using h7
      obtain ⟨k, hk⟩ : ∃ k, kids[i]? = some k := ⟨_, List.getElem?_eq_getElem hlt⟩
      have hkm := List.mem_of_getElem? hk
      rw [drop_kid hk]
      refine WC.chunksE (α := { x : (List Nat × List Nat) × List Value × Option Addr × Nat // vr = tv k x.2.2.1 x.2.2.2 :: x.2.1 }) (C' := fun x => [ownW x.1.1.1 k (tv k x.1.2.2.1 x.1.2.2.2), rowc (.slice (some ⟨g, 0, none⟩) kids.length c) kids.length 25 3 (flat (vd ++ vr)), ownWL Gd (List.map spK (kids.take i)) vd, ownWL x.1.1.2 (kids.drop (i + 1)) x.1.2.1, pt b1 [Value.int .u8 op, .string (str name), .slice (some ⟨g, 0, none⟩) kids.length c] 25]) (fun w hS => ?_) (fun x => ?_)
      · obtain ⟨F1, F2, v, vr2, h1, h2⟩ := St.ownWCons (St.pick hS (c := ownWL Gr (k :: kids.drop (i + 1)) vr) (by repeat (first | exact Rem.here | apply Rem.there)))
        obtain ⟨a1, c1, hv⟩ : ∃ a1 c1, v = tv k a1 c1 := by
          obtain ⟨a1, n1, c1, hv, hn⟩ := rdT_val (rdW_T (h2.ok (ownW F1 k v) (List.Mem.head _)).2)
          subst hn
          exact ⟨a1, c1, hv⟩
        subst hv
        refine ⟨⟨((F1, F2), vr2, a1, c1), h1⟩, ?_⟩
        exact ((St.pick (St.pick (St.pick (St.pick (St.pick h2 (c := pt b1 [Value.int .u8 op, .string (str name), .slice (some ⟨g, 0, none⟩) kids.length c] 25) (by repeat (first | exact Rem.here | apply Rem.there))) (c := ownWL F2 (kids.drop (i + 1)) vr2) (by repeat (first | exact Rem.here | apply Rem.there))) (c := ownWL Gd (List.map spK (kids.take i)) vd) (by repeat (first | exact Rem.here | apply Rem.there))) (c := rowc (.slice (some ⟨g, 0, none⟩) kids.length c) kids.length 25 3 (flat (vd ++ vr))) (by repeat (first | exact Rem.here | apply Rem.there))) (c := ownW F1 k (tv k a1 c1)) (by repeat (first | exact Rem.here | apply Rem.there)))).sublist (List.Sublist.cons_cons _ (List.Sublist.cons_cons _ (List.Sublist.cons_cons _ (List.Sublist.cons_cons _ (List.Sublist.cons_cons _ (List.nil_sublist _))))))
      obtain ⟨⟨⟨F1, F2⟩, vr2, a1, c1⟩, hvr⟩ := x
      simp only at hvr
      subst hvr
      have hget : (vd ++ tv k a1 c1 :: vr2)[i]? = some (tv k a1 c1) := by rw [List.getElem?_append_right (by omega), show i - vd.length = 0 by omega]; rfl
      have hkn := hnm k (rowL_mem hkm k (by rw [Fm.rowT_eq]; simp))
      refine WC.skip ?_
      refine WQ.then_normal ?_
      refine WC.seq ?_
      refine WC.block ?_
      refine WC.seq ?_
      refine WC.drawsL (by kernel_rfl) (FactsOk.cons (ds := [12]) (LoadOk.one (t := 1) (off := 2) rfl (by repeat (first | exact List.Mem.head _ | apply List.Mem.tail)) rfl) (FactsOk.cons (ds := [12]) (LoadOk.one (t := 1) (off := 2) rfl (by repeat (first | exact List.Mem.head _ | apply List.Mem.tail)) rfl) (FactsOk.cons (ds := [12]) (LoadOk.by (Y := fun w => w.cell? ⟨g, 0 + i * 3 + 1, none⟩ = some (.string (str k.name))) (fun w hS => by rw [Nat.zero_add]; exact rowc_cells (hS.ok (rowc (.slice (some ⟨g, 0, none⟩) kids.length c) kids.length 25 3 (flat (vd ++ tv k a1 c1 :: vr2))) (by repeat (first | exact List.Mem.head _ | apply List.Mem.tail))) (flat_get h3 hget rfl))) (FactsOk.nil)))) ?_
      refine WD.take (i := 0) rfl rfl rfl rfl (by kernel_rfl) (by kernel_rfl) (by kernel_rfl) (fun _ _ _ h => h) (by kernel_rfl) need_none (Yl.fieldAddr0 F.fld25_2 rfl) ?_
      refine WD.take (i := 1) rfl rfl rfl rfl (by kernel_rfl) (by kernel_rfl) (by kernel_rfl) (fun _ _ _ h => h) (by kernel_rfl) (need_at 0 13 rfl (by kernel_rfl)) (Yl.load1 F.one23 rfl) ?_
      refine WD.take (i := 2) rfl rfl rfl rfl (by kernel_rfl) (by kernel_rfl) (by kernel_rfl) (fun _ _ _ h => h) (by kernel_rfl) need_none (Yl.move rfl) ?_
      refine WD.take (i := 3) rfl rfl rfl rfl (by kernel_rfl) (by kernel_rfl) (by kernel_rfl) (fun _ _ _ h => h) (by kernel_rfl) need_none (Yl.fieldAddr0 F.fld25_2 rfl) ?_
      refine WD.take (i := 4) rfl rfl rfl rfl (by kernel_rfl) (by kernel_rfl) (by kernel_rfl) (fun _ _ _ h => h) (by kernel_rfl) (need_at 1 13 rfl (by kernel_rfl)) (Yl.load1 F.one23 rfl) ?_
      refine WD.take (i := 5) rfl rfl rfl rfl (by kernel_rfl) (by kernel_rfl) (by kernel_rfl) (fun _ _ _ h => h) (by kernel_rfl) need_none (Yl.move rfl) ?_
      refine WD.take (i := 6) rfl rfl rfl rfl (by kernel_rfl) (by kernel_rfl) (by kernel_rfl) (fun _ _ _ h => h) (by kernel_rfl) need_none (Yl.indexAddr F.sl23 rfl rfl hlt) ?_
      refine WD.take (i := 7) rfl rfl rfl rfl (by kernel_rfl) (by kernel_rfl) (by kernel_rfl) (fun _ _ _ h => h) (by kernel_rfl) need_none (Yl.fieldAddr F.fld25_1 rfl) ?_
      refine WD.take (i := 8) rfl rfl rfl rfl (by kernel_rfl) (by kernel_rfl) (by kernel_rfl) (fun _ _ _ h => h) (by kernel_rfl) (need_at 2 13 rfl (by kernel_rfl)) (Yl.load1 F.one9 rfl) ?_
      refine WD.take (i := 9) rfl rfl rfl rfl (by kernel_rfl) (by kernel_rfl) (by kernel_rfl) (fun _ _ _ h => h) (by kernel_rfl) need_none (Yl.addS rfl rfl (by simp; omega)) ?_
      refine WD.take (i := 10) rfl rfl rfl rfl (by kernel_rfl) (by kernel_rfl) (by kernel_rfl) (fun _ _ _ h => h) (by kernel_rfl) need_none (Yl.indexAddr F.sl23 rfl rfl hlt) ?_
      refine WD.take (i := 11) rfl rfl rfl rfl (by kernel_rfl) (by kernel_rfl) (by kernel_rfl) (fun _ _ _ h => h) (by kernel_rfl) need_none (Yl.fieldAddr F.fld25_1 rfl) ?_
      refine WD.one (i := 12) (by kernel_rfl) rfl ?_
      refine WL.storeRow1 F.one9 rfl rfl rfl (n := kids.length) (sz := 3) (cap := c) (g := g) (e := 25) (xs := flat (vd ++ tv k a1 c1 :: vr2)) (xs' := flat ((vd ++ tv k a1 c1 :: vr2).set i (.agg #[.int .u8 k.op, .string (str (k.name ++ [120])), .slice a1 k.kids.length c1] : Value))) (v := .string (str (k.name ++ [120]))) (by repeat (first | exact Upd.here | apply Upd.there)) (by rw [Nat.zero_add]; exact SetN.flat1 rfl rfl hget h3) ?_
      refine WD.on (closed_of (by kernel_rfl)) (fun w hS => Sx.gone rfl (Sx.gone rfl (Sx.gone rfl (Sx.none)))) ?_
      refine WD.done (by kernel_rfl) ?_
      refine WQ.then_normal ?_
      refine WC.region ?_
      refine WL.step ?_
      refine WL.fieldAddr0 F.fld25_2 rfl rfl ?_
      refine WL.step ?_
      refine WL.loadP F.one23 rfl rfl (by repeat (first | exact List.Mem.head _ | apply List.Mem.tail)) rfl ?_
      refine WL.step ?_
      refine WL.move rfl rfl ?_
      refine WL.step ?_
      refine WL.indexAddr F.sl23 rfl rfl rfl hlt ?_
      refine WL.step ?_
      refine WL.loadN F.agg25 rfl rfl (vs := [Value.int .u8 k.op, .string (str (k.name ++ [120])), .slice a1 k.kids.length c1]) rfl (fun w hS j v hv => by rw [Nat.zero_add]; exact rowc_cells (hS.ok (rowc (.slice (some ⟨g, 0, none⟩) kids.length c) kids.length 25 3 (flat ((vd ++ tv k a1 c1 :: vr2).set i (.agg #[.int .u8 k.op, .string (str (k.name ++ [120])), .slice a1 k.kids.length c1] : Value)))) (by repeat (first | exact List.Mem.head _ | apply List.Mem.tail))) (flat_get (v := (.agg #[.int .u8 k.op, .string (str (k.name ++ [120])), .slice a1 k.kids.length c1] : Value)) (i := i) (fun v hv => by rcases List.mem_or_eq_of_mem_set hv with hv | hv; exact h3 v hv; rw [hv]; rfl) (by rw [List.getElem?_set_self (List.getElem?_eq_some_iff.1 hget).1]) hv)) ?_
      refine WA.chunks (C' := [ownW F1 (.mk k.op (k.name ++ [120]) k.kids) (tv (.mk k.op (k.name ++ [120]) k.kids) a1 c1), rowc (.slice (some ⟨g, 0, none⟩) kids.length c) kids.length 25 3 (flat ((vd ++ tv k a1 c1 :: vr2).set i (.agg #[.int .u8 k.op, .string (str (k.name ++ [120])), .slice a1 k.kids.length c1] : Value))), ownWL Gd (List.map spK (kids.take i)) vd, ownWL F2 (kids.drop (i + 1)) vr2, pt b1 [Value.int .u8 op, .string (str name), .slice (some ⟨g, 0, none⟩) kids.length c] 25]) (fun w hS => ?_) ?_
      · have hkt : Tree.mk k.op k.name k.kids = k := by cases k; rfl
        have h2 := (St.pick hS (c := ownW F1 k (tv k a1 c1)) (by repeat (first | exact Rem.here | apply Rem.there)))
        rw [← hkt] at h2
        have h5 := St.ownWRename (op' := k.op) (name' := (k.name ++ [120])) h2
        rw [hkt] at h5
        exact ((St.pick (St.pick (St.pick (St.pick (St.pick h5 (c := pt b1 [Value.int .u8 op, .string (str name), .slice (some ⟨g, 0, none⟩) kids.length c] 25) (by repeat (first | exact Rem.here | apply Rem.there))) (c := ownWL F2 (kids.drop (i + 1)) vr2) (by repeat (first | exact Rem.here | apply Rem.there))) (c := ownWL Gd (List.map spK (kids.take i)) vd) (by repeat (first | exact Rem.here | apply Rem.there))) (c := rowc (.slice (some ⟨g, 0, none⟩) kids.length c) kids.length 25 3 (flat ((vd ++ tv k a1 c1 :: vr2).set i (.agg #[.int .u8 k.op, .string (str (k.name ++ [120])), .slice a1 k.kids.length c1] : Value)))) (by repeat (first | exact Rem.here | apply Rem.there))) (c := ownW F1 (.mk k.op (k.name ++ [120]) k.kids) (tv (.mk k.op (k.name ++ [120]) k.kids) a1 c1)) (by repeat (first | exact Rem.here | apply Rem.there)))).sublist (List.Sublist.cons_cons _ (List.Sublist.cons_cons _ (List.Sublist.cons_cons _ (List.Sublist.cons_cons _ (List.Sublist.cons_cons _ (List.nil_sublist _))))))
      refine WL.step ?_
      refine WL.callC (β := List Nat) (res := fun _ => .tuple #[]) (cs := fun x => [ownW x (spT (.mk k.op (k.name ++ [120]) k.kids)) (tv (spT (.mk k.op (k.name ++ [120]) k.kids)) a1 c1)]) (Cs := [ownW F1 (.mk k.op (k.name ++ [120]) k.kids) (tv (.mk k.op (k.name ++ [120]) k.kids) a1 c1)]) (O' := F1) F.fun43 (fun d h => by cases h; rfl) rfl (List.Perm.refl _) (fun c hc k hk => by rw [List.mem_singleton] at hc; subst hc; exact hk) (fun k hk => ⟨_, List.mem_singleton.2 rfl, hk⟩) (fun w hS hS2 => hrec k.op (k.name ++ [120]) k.kids F1 a1 c1 w F1 (by have := rowL_len hkm; rw [Fm.rowT_eq, List.length_cons] at this; omega) (fun x hx => hnm x (rowL_mem hkm x (by rw [Fm.rowT_eq]; simp [hx]))) hS2) (fun x27 => ?_)
      refine WL.nil ?_
      refine WQ.block_normal ?_
      refine WQ.then_normal ?_
      refine WC.region ?_
      refine WL.step ?_
      refine WL.move rfl rfl ?_
      refine WL.step ?_
      refine WL.add rfl rfl rfl ⟨by omega, by omega⟩ ?_
      refine WL.step ?_
      refine WL.assign rfl rfl ?_
      refine WL.nil ?_
      have hlen2 : (spK k).kids.length = k.kids.length := by rw [spK_eq]; simp [Tree.kids]
      have hrv : (.agg #[.int .u8 k.op, .string (str (k.name ++ [120])), .slice a1 k.kids.length c1] : Value) = (tv (spK k) a1 c1) := by rw [spK_eq]; simp [tv, Tree.op, Tree.name, Tree.kids]
      have hset : (vd ++ tv k a1 c1 :: vr2).set i (.agg #[.int .u8 k.op, .string (str (k.name ++ [120])), .slice a1 k.kids.length c1] : Value) = (vd ++ [(tv (spK k) a1 c1)]) ++ vr2 := by rw [hrv, List.set_append_right _ _ (by omega), show i - vd.length = 0 by omega]; simp
      rw [hset]
      refine WQ.chunks (C' := [rowc (.slice (some ⟨g, 0, none⟩) kids.length c) kids.length 25 3 (flat ((vd ++ [(tv (spK k) a1 c1)]) ++ vr2)), ownWL (Gd ++ x27) (List.map spK (kids.take i) ++ [spK k]) (vd ++ [(tv (spK k) a1 c1)]), ownWL F2 (kids.drop (i + 1)) vr2, pt b1 [Value.int .u8 op, .string (str name), .slice (some ⟨g, 0, none⟩) kids.length c] 25]) (fun w hS => ?_) ?_
      · rw [spT_ren] at hS
        have h2 := St.ownWSnoc (St.pick (St.pick hS (c := ownW x27 (spK k) (tv (spK k) a1 c1)) (by repeat (first | exact Rem.here | apply Rem.there))) (c := ownWL Gd (List.map spK (kids.take i)) vd) (by repeat (first | exact Rem.here | apply Rem.there)))
        exact ((St.pick (St.pick (St.pick (St.pick h2 (c := pt b1 [Value.int .u8 op, .string (str name), .slice (some ⟨g, 0, none⟩) kids.length c] 25) (by repeat (first | exact Rem.here | apply Rem.there))) (c := ownWL F2 (kids.drop (i + 1)) vr2) (by repeat (first | exact Rem.here | apply Rem.there))) (c := ownWL (Gd ++ x27) (List.map spK (kids.take i) ++ [spK k]) (vd ++ [(tv (spK k) a1 c1)])) (by repeat (first | exact Rem.here | apply Rem.there))) (c := rowc (.slice (some ⟨g, 0, none⟩) kids.length c) kids.length 25 3 (flat ((vd ++ [(tv (spK k) a1 c1)]) ++ vr2))) (by repeat (first | exact Rem.here | apply Rem.there)))).sublist (List.Sublist.cons_cons _ (List.Sublist.cons_cons _ (List.Sublist.cons_cons _ (List.Sublist.cons_cons _ (List.nil_sublist _)))))
      have e1 : List.map spK (kids.take i) ++ [spK k] = List.map spK (kids.take (i + 1)) := by rw [List.take_add_one, hk]; simp
      rw [e1]
      refine WQ.back (⟨i + 1, Gd ++ x27, F2, vd ++ [(tv (spK k) a1 c1)], vr2⟩) ?_ ?_ ?_ ?_
      · exact ⟨by show i + 1 ≤ _; omega, by show (vd ++ [_]).length = i + 1; simp [hvd], fun v hv => by rcases List.mem_append.1 hv with hv | hv; (rcases List.mem_append.1 hv with hv | hv; exact h3 v (by simp [hv]); rw [List.mem_singleton] at hv; rw [hv]; rfl); exact h3 v (by simp [hv])⟩
      · (show kids.length - (i + 1) < kids.length - i; omega)
      · exact ⟨rfl, rfl, trivial⟩
      · rfl
    · skip
      have hie : i = kids.length := by simp at h7; omega
      subst hie
      rw [List.take_length, List.drop_length]
      refine WC.exit ?_
      refine WQ.then_exit ?_
      refine WQ.then_exit ?_
      refine WQ.block_exit ?_
      refine WQ.fin (rs := []) rfl .nil (fun w hS => ?_)
      have hv0 : vr = [] := by
        have h8 := (hS.ok (ownWL Gr [] vr) (by repeat (first | exact List.Mem.head _ | apply List.Mem.tail))).2
        simp only [rdWL] at h8
        exact h8.2
      subst hv0
      rw [List.append_nil] at hS
      obtain ⟨F9, h9⟩ := St.ownWNode (ts := List.map spK kids) op name (by simp) (St.pick (St.pick hS (c := ownWL Gd (List.map spK kids) vd) (by repeat (first | exact Rem.here | apply Rem.there))) (c := rowc (.slice (some ⟨g, 0, none⟩) kids.length c) kids.length 25 3 (flat vd)) (by repeat (first | exact Rem.here | apply Rem.there)))
      have e9 : (Value.agg #[.int .u8 op, .string (str name), .slice (some ⟨g, 0, none⟩) kids.length c]) = tv (spT (.mk op name kids)) (some ⟨g, 0, none⟩) c := by simp [tv, spT, Tree.op, Tree.name, Tree.kids]
      refine ⟨F9, rfl, ?_⟩
      rw [← e9]
      exact h9.one1

end Go.Proofs.Ytbippghgkbapnaa

namespace Go.Proofs.Ytbippghgkbapnaa
open Go Go.Eng Go.Proofs
theorem Spo_all : ∀ n, n ≤ 1099511627776 → SpoC n
  | 0, _ => fun op name kids Ft a c w O hsz => by omega
  | n + 1, h => Spo_step n (by omega) (Spo_all n (by omega))
theorem Spo_c (t : Tree) (Ft : List Nat) (a : Option Addr) (c : Nat) (w : World) (O : List Nat) (hsz : (Fm.rowT t).length ≤ 1200) (hnm : ∀ k ∈ Fm.rowT t, k.name.length ≤ 1000000) (hS : St w O [ownW Ft t (tv t a c)] w) :
    Calls Try.prog 43 [tv t a c].toArray w fun e w' => ∃ x : List Nat, e = .returned (.tuple #[]) ∧ St w O [ownW x (spT t) (tv (spT t) a c)] w' := by
  cases t with
  | mk op name kids =>
    rw [Fm.rowT_eq] at hsz hnm
    exact Spo_all 2000 (by decide) op name kids Ft a c w O (by simp [Tree.kids] at hsz; omega) (fun k hk => hnm k (by simp [Tree.kids, hk])) hS
mutual
theorem spK_len : ∀ t : Tree, (Fm.rowT (spK t)).length = (Fm.rowT t).length
  | .mk op name kids => by simp [spK, Fm.rowT, spL_len kids]
theorem spL_len : ∀ ts : List Tree, (Fm.rowL (spL ts)).length = (Fm.rowL ts).length
  | [] => rfl
  | t :: ts => by simp [spL, Fm.rowL, spK_len t, spL_len ts]
end
theorem spT_len (t : Tree) : (Fm.rowT (spT t)).length = (Fm.rowT t).length := by
  rw [Fm.rowT_eq, Fm.rowT_eq t]
  show (_ :: Fm.rowL (t.kids.map spK)).length = _
  rw [← spL_map, List.length_cons, List.length_cons, spL_len]
theorem spT_val (t : Tree) (a : Option Addr) (c : Nat) : tv (spT t) a c = tv t a c := by simp [tv, spT, Tree.op, Tree.name, Tree.kids]
theorem repE_ok {nm : List UInt8} {u t : Tree} (h : (repE nm u t).2 = 0) : (repE nm u t).1 = replT nm u t ∧ Fm.validB (replT nm u t) = true := by
  unfold repE at h ⊢
  split at h
  · cases h
  · rename_i h1
    rw [if_neg h1]
    split at h
    · cases h
    · rename_i h2
      rw [if_neg h2]
      split at h
      · rename_i h3
        rw [if_pos h3]
        exact ⟨rfl, h3⟩
      · cases h
theorem valid_names {t : Tree} (h : Fm.validB t = true) : ∀ x ∈ Fm.rowT t, x.name.length ≤ 1000000 := by
  intro x hx
  rw [← Fm.refValid_eq, Fm.refValid] at h
  simp only [Bool.and_eq_true, decide_eq_true_eq, List.all_eq_true] at h
  have h1 := h.1.1 x hx
  unfold Fm.oneB at h1
  split at h1
  · simp only [Bool.and_eq_true] at h1
    have h2 := h1.2
    unfold Fm.isNameB at h2
    split at h2
    · cases h2
    · simp only [Bool.and_eq_true, decide_eq_true_eq] at h2
      omega
  · by_cases hn : x.name = []
    · rw [hn]; simp
    · rw [if_pos hn] at h1; cases h1

theorem FormulaOwn_c (t : Tree) (G : List Nat) (a : Option Addr) (c : Nat) (u : Tree) (H : List Nat) (a2 : Option Addr) (c2 : Nat) (wb : World) (hr : rdT wb t G (tv t a c)) (hr2 : rdT wb u H (tv u a2 c2)) : Pure Try.prog 12 [tv t a c, tv u a2 c2] wb (.bool true) := by
  refine enter Try.func12 rfl Try.ntmps12 rfl (St.init _) ?_
  refine WC.seq ?_
  refine WC.region ?_
  refine WL.step ?_
  refine WL.boxN rfl rfl (fun b2 => ?_)
  refine WL.step ?_
  refine WL.boxN rfl rfl (fun b3 => ?_)
  refine WL.step ?_
  refine WL.assign rfl rfl ?_
  refine WL.nil ?_
  refine WQ.then_normal ?_
  refine WC.seq ?_
  refine WC.seq ?_
  refine WC.cutF [(27, .bool ((Fm.greatB t 60 || Fm.greatB u 60) || (decide (30 < ((Fm.rowT t).length : Int)) || decide (30 < ((Fm.rowT u).length : Int))))), (2, pp b2), (3, pp b3)] (fun Q' hQ => ?_) ?_
  · skip
    refine WC.region ?_
    refine WL.step ?_
    refine WL.loadW F.agg25 rfl rfl (by repeat (first | exact List.Mem.head _ | apply List.Mem.tail)) rfl ?_
    refine WL.step ?_
    refine WL.callV F.fun17 rfl rfl (fun w hS => great_c t 60 (by omega) wb G a c w hr ((Ext.refl wb).st hS)) ?_
    refine WL.step ?_
    refine WL.move rfl rfl ?_
    refine WA.splitB (i := 12) rfl (fun g12 => ?_) (fun g12 => ?_)
    · skip
      refine WL.step (WL.guardF rfl rfl rfl rfl rfl rfl ?_)
      refine WL.step (WL.guardF rfl rfl rfl rfl rfl rfl ?_)
      refine WL.step ?_
      refine WL.pickT rfl rfl rfl ?_
      refine WL.step ?_
      refine WL.move rfl rfl ?_
      refine WL.step (WL.guardF rfl rfl rfl rfl rfl rfl ?_)
      refine WL.step (WL.guardF rfl rfl rfl rfl rfl rfl ?_)
      refine WL.step (WL.guardF rfl rfl rfl rfl rfl rfl ?_)
      refine WL.step (WL.guardF rfl rfl rfl rfl rfl rfl ?_)
      refine WL.step ?_
      refine WL.pickT rfl rfl rfl ?_
      refine WL.step ?_
      refine WL.move rfl rfl ?_
      refine WL.step (WL.guardF rfl rfl rfl rfl rfl rfl ?_)
      refine WL.step (WL.guardF rfl rfl rfl rfl rfl rfl ?_)
      refine WL.step (WL.guardF rfl rfl rfl rfl rfl rfl ?_)
      refine WL.step (WL.guardF rfl rfl rfl rfl rfl rfl ?_)
      refine WL.step ?_
      refine WL.pickT rfl rfl rfl ?_
      refine WL.nil ?_
      refine WQ.chunks (C' := [pt b3 [Value.int .u8 u.op, .string (str u.name), .slice a2 u.kids.length c2] 25, pt b2 [Value.int .u8 t.op, .string (str t.name), .slice a t.kids.length c] 25]) (fun w hS => ((St.pick (St.pick hS (c := pt b2 [Value.int .u8 t.op, .string (str t.name), .slice a t.kids.length c] 25) (by repeat (first | exact Rem.here | apply Rem.there))) (c := pt b3 [Value.int .u8 u.op, .string (str u.name), .slice a2 u.kids.length c2] 25) (by repeat (first | exact Rem.here | apply Rem.there)))).sublist (List.Sublist.cons_cons _ (List.Sublist.cons_cons _ (List.nil_sublist _)))) ?_
      refine WQ.byCut hQ (subF_bool ?_ ⟨rfl, rfl, trivial⟩ rfl)
      first | (simp [g12]; done) | (simp [g12, g16]; done) | (simp [g12, g16, g22]; done) | (simp_all; done)
    · skip
      obtain ⟨hsz, hlv, hsn⟩ := Fm.great_no g12
      refine WL.step (WL.guardT rfl rfl rfl ?_)
      refine WL.loadW F.agg25 rfl rfl (by repeat (first | exact List.Mem.head _ | apply List.Mem.tail)) rfl ?_
      refine WL.step (WL.guardT rfl rfl rfl ?_)
      refine WL.callV F.fun17 rfl rfl (fun w hS => great_c u 60 (by omega) wb H a2 c2 w hr2 ((Ext.refl wb).st hS)) ?_
      refine WL.step ?_
      refine WL.pickF rfl rfl rfl ?_
      refine WL.step ?_
      refine WL.move rfl rfl ?_
      refine WA.splitB (i := 16) rfl (fun g16 => ?_) (fun g16 => ?_)
      · skip
        refine WL.step (WL.guardF rfl rfl rfl rfl rfl rfl ?_)
        refine WL.step (WL.guardF rfl rfl rfl rfl rfl rfl ?_)
        refine WL.step (WL.guardF rfl rfl rfl rfl rfl rfl ?_)
        refine WL.step (WL.guardF rfl rfl rfl rfl rfl rfl ?_)
        refine WL.step ?_
        refine WL.pickT rfl rfl rfl ?_
        refine WL.step ?_
        refine WL.move rfl rfl ?_
        refine WL.step (WL.guardF rfl rfl rfl rfl rfl rfl ?_)
        refine WL.step (WL.guardF rfl rfl rfl rfl rfl rfl ?_)
        refine WL.step (WL.guardF rfl rfl rfl rfl rfl rfl ?_)
        refine WL.step (WL.guardF rfl rfl rfl rfl rfl rfl ?_)
        refine WL.step ?_
        refine WL.pickT rfl rfl rfl ?_
        refine WL.nil ?_
        refine WQ.chunks (C' := [pt b3 [Value.int .u8 u.op, .string (str u.name), .slice a2 u.kids.length c2] 25, pt b2 [Value.int .u8 t.op, .string (str t.name), .slice a t.kids.length c] 25]) (fun w hS => ((St.pick (St.pick hS (c := pt b2 [Value.int .u8 t.op, .string (str t.name), .slice a t.kids.length c] 25) (by repeat (first | exact Rem.here | apply Rem.there))) (c := pt b3 [Value.int .u8 u.op, .string (str u.name), .slice a2 u.kids.length c2] 25) (by repeat (first | exact Rem.here | apply Rem.there)))).sublist (List.Sublist.cons_cons _ (List.Sublist.cons_cons _ (List.nil_sublist _)))) ?_
        refine WQ.byCut hQ (subF_bool ?_ ⟨rfl, rfl, trivial⟩ rfl)
        first | (simp [g12]; done) | (simp [g12, g16]; done) | (simp [g12, g16, g22]; done) | (simp_all; done)
      · skip
        obtain ⟨hsz2, hlv2, hsn2⟩ := Fm.great_no g16
        refine WL.step (WL.guardT rfl rfl rfl ?_)
        refine WL.loadW F.agg25 rfl rfl (by repeat (first | exact List.Mem.head _ | apply List.Mem.tail)) rfl ?_
        refine WL.step (WL.guardT rfl rfl rfl ?_)
        refine WL.callC (β := { y : Option Addr × Nat × List Value // NodesOk wb (Fm.rowT t) y.2.2 }) (res := fun x => .slice x.1.1 (Fm.rowT t).length x.1.2.1) (cs := fun x => [rowc (.slice x.1.1 (Fm.rowT t).length x.1.2.1) (Fm.rowT t).length 25 3 (flat x.1.2.2)]) (Cs := []) (O' := []) F.fun38 (fun d h => by cases h; rfl) rfl (List.Perm.refl _) (by simp) (by simp) (fun w hS _ => Row_c 1200 (by decide) t wb G a c w hsz hr ((Ext.refl wb).st hS)) (fun y18 => ?_)
        refine WL.step (WL.guardT rfl rfl rfl ?_)
        refine WL.lenSl F.und23 rfl rfl ?_
        refine WL.step (WL.guardT rfl rfl rfl ?_)
        refine WL.gtI rfl rfl rfl ?_
        refine WL.step ?_
        refine WL.pickF rfl rfl rfl ?_
        refine WL.step ?_
        refine WL.move rfl rfl ?_
        refine WA.splitB (i := 22) rfl (fun g22 => ?_) (fun g22 => ?_)
        · skip
          refine WL.step (WL.guardF rfl rfl rfl rfl rfl rfl ?_)
          refine WL.step (WL.guardF rfl rfl rfl rfl rfl rfl ?_)
          refine WL.step (WL.guardF rfl rfl rfl rfl rfl rfl ?_)
          refine WL.step (WL.guardF rfl rfl rfl rfl rfl rfl ?_)
          refine WL.step ?_
          refine WL.pickT rfl rfl rfl ?_
          refine WL.nil ?_
          refine WQ.chunks (C' := [pt b3 [Value.int .u8 u.op, .string (str u.name), .slice a2 u.kids.length c2] 25, pt b2 [Value.int .u8 t.op, .string (str t.name), .slice a t.kids.length c] 25]) (fun w hS => ((St.pick (St.pick hS (c := pt b2 [Value.int .u8 t.op, .string (str t.name), .slice a t.kids.length c] 25) (by repeat (first | exact Rem.here | apply Rem.there))) (c := pt b3 [Value.int .u8 u.op, .string (str u.name), .slice a2 u.kids.length c2] 25) (by repeat (first | exact Rem.here | apply Rem.there)))).sublist (List.Sublist.cons_cons _ (List.Sublist.cons_cons _ (List.nil_sublist _)))) ?_
          refine WQ.byCut hQ (subF_bool ?_ ⟨rfl, rfl, trivial⟩ rfl)
          first | (simp [g12]; done) | (simp [g12, g16]; done) | (simp [g12, g16, g22]; done) | (simp_all; done)
        · skip
          refine WL.step (WL.guardT rfl rfl rfl ?_)
          refine WL.loadW F.agg25 rfl rfl (by repeat (first | exact List.Mem.head _ | apply List.Mem.tail)) rfl ?_
          refine WL.step (WL.guardT rfl rfl rfl ?_)
          refine WL.callC (β := { y : Option Addr × Nat × List Value // NodesOk wb (Fm.rowT u) y.2.2 }) (res := fun x => .slice x.1.1 (Fm.rowT u).length x.1.2.1) (cs := fun x => [rowc (.slice x.1.1 (Fm.rowT u).length x.1.2.1) (Fm.rowT u).length 25 3 (flat x.1.2.2)]) (Cs := []) (O' := []) F.fun38 (fun d h => by cases h; rfl) rfl (List.Perm.refl _) (by simp) (by simp) (fun w hS _ => Row_c 1200 (by decide) u wb H a2 c2 w hsz2 hr2 ((Ext.refl wb).st hS)) (fun y24 => ?_)
          refine WL.step (WL.guardT rfl rfl rfl ?_)
          refine WL.lenSl F.und23 rfl rfl ?_
          refine WL.step (WL.guardT rfl rfl rfl ?_)
          refine WL.gtI rfl rfl rfl ?_
          refine WL.step ?_
          refine WL.pickF rfl rfl rfl ?_
          refine WL.nil ?_
          refine WQ.chunks (C' := [pt b3 [Value.int .u8 u.op, .string (str u.name), .slice a2 u.kids.length c2] 25, pt b2 [Value.int .u8 t.op, .string (str t.name), .slice a t.kids.length c] 25]) (fun w hS => ((St.pick (St.pick hS (c := pt b2 [Value.int .u8 t.op, .string (str t.name), .slice a t.kids.length c] 25) (by repeat (first | exact Rem.here | apply Rem.there))) (c := pt b3 [Value.int .u8 u.op, .string (str u.name), .slice a2 u.kids.length c2] 25) (by repeat (first | exact Rem.here | apply Rem.there)))).sublist (List.Sublist.cons_cons _ (List.Sublist.cons_cons _ (List.nil_sublist _)))) ?_
          refine WQ.byCut hQ (subF_bool ?_ ⟨rfl, rfl, trivial⟩ rfl)
          first | (simp [g12]; done) | (simp [g12, g16]; done) | (simp [g12, g16, g22]; done) | (simp_all; done)
  refine WQ.then_normal ?_
  refine WC.cond rfl (fun h35 => ?_) (fun h35 => ?_)
  · skip
    refine WC.seq ?_
    refine WC.region ?_
    refine WL.step ?_
    refine WL.callV F.fun13 rfl rfl (fun w _ => wakes_c w) ?_
    refine WL.step ?_
    refine WL.assign rfl rfl ?_
    refine WL.nil ?_
    refine WQ.then_normal ?_
    refine WC.ret ?_
    refine WQ.then_ret ?_
    exact WQ.ret (rs := [.tmp 4]) rfl (.tmp rfl .nil) (fun w hS => ⟨by first | rfl | simp [tup], hS.sublist (List.nil_sublist _)⟩)
  · skip
    have hg1 : Fm.greatB t 60 = false := by (cases hz : Fm.greatB t 60 with | false => rfl | true => rw [hz] at h35; simp at h35)
    have hg2 : Fm.greatB u 60 = false := by (cases hz : Fm.greatB u 60 with | false => rfl | true => rw [hz] at h35; simp at h35)
    obtain ⟨hsz, hlv, hsn⟩ := Fm.great_no hg1
    obtain ⟨hsz2, hlv2, hsn2⟩ := Fm.great_no hg2
    have hrs := repE_small [97] u t
    refine WC.skip ?_
    refine WQ.then_normal ?_
    refine WC.seq ?_
    refine WC.cutPE (α := (Nat × Nat) × (List Nat × Option Addr × Nat) × (List Nat × Option Addr × Nat)) (fun x => [(2, pp b2), (3, pp b3), (5, pp x.1.1), (6, pp x.1.2)]) (fun x => [pt b2 [Value.int .u8 t.op, .string (str t.name), .slice a t.kids.length c] 25, pt b3 [Value.int .u8 u.op, .string (str u.name), .slice a2 u.kids.length c2] 25, pt x.1.1 [Value.int .u8 t.op, .string (str t.name), .slice x.2.1.2.1 t.kids.length x.2.1.2.2] 25, pt x.1.2 [Value.int .u8 u.op, .string (str u.name), .slice x.2.2.2.1 u.kids.length x.2.2.2.2] 25, ownW x.2.1.1 t (tv t x.2.1.2.1 x.2.1.2.2), ownW x.2.2.1 u (tv u x.2.2.2.1 x.2.2.2.2)]) (fun c a d v w h => by cases d <;> exact h) (fun Q' hP hQ => ?_) (fun xE => ?_)
    · skip
      refine WC.drawsL (by kernel_rfl) (FactsOk.cons (ds := [1, 3, 6, 7]) (LoadOk.whole (t := 2) rfl (by repeat (first | exact List.Mem.head _ | apply List.Mem.tail))) (FactsOk.cons (ds := [3, 6, 7]) (LoadOk.whole (t := 3) rfl (by repeat (first | exact List.Mem.head _ | apply List.Mem.tail))) (FactsOk.nil))) ?_
      refine WD.take (i := 0) rfl rfl rfl rfl (by decide +kernel) (by decide +kernel) (by decide +kernel) (fun _ _ _ h => hP _ _ _ _ _ h) (by kernel_rfl) (need_at2 0 rfl (by decide +kernel)) (Yl.loadN F.agg25 rfl rfl) ?_
      refine WD.take (i := 2) rfl rfl rfl rfl (by decide +kernel) (by decide +kernel) (by decide +kernel) (fun _ _ _ h => hP _ _ _ _ _ h) (by kernel_rfl) (need_at2 1 rfl (by decide +kernel)) (Yl.loadN F.agg25 rfl rfl) ?_
      refine WD.three (i := 1) (j := 4) (l := 5) (by decide +kernel) rfl rfl rfl ?_ ?_ ?_
      · skip
        refine WL.callC (β := List Nat × Option Addr × Nat) (res := fun y => tv t y.2.1 y.2.2) (cs := fun y => [ownW y.1 t (tv t y.2.1 y.2.2)]) (Cs := []) (O' := []) F.fun18 (fun d h => by cases h; rfl) rfl (List.Perm.refl _) (by simp) (by simp) (fun w hS _ => CopiedW_c 1200 (by decide) t wb G a c w hsz hr ((Ext.refl wb).st hS)) (fun y30 => ?_)
        refine WD.on (closed_of (by decide +kernel)) (fun w hS => Sx.gone rfl (Sx.keep ((fun j v hv => by rw [Nat.zero_add]; exact hS.cell (by repeat (first | exact List.Mem.head _ | apply List.Mem.tail)) hv)) (Sx.none))) ?_
        refine WD.three (i := 3) (j := 4) (l := 5) (by decide +kernel) rfl rfl rfl ?_ ?_ ?_
        · skip
          refine WL.callC (β := List Nat × Option Addr × Nat) (res := fun y => tv u y.2.1 y.2.2) (cs := fun y => [ownW y.1 u (tv u y.2.1 y.2.2)]) (Cs := []) (O' := []) F.fun18 (fun d h => by cases h; rfl) rfl (List.Perm.refl _) (by simp) (by simp) (fun w hS _ => CopiedW_c 1200 (by decide) u wb H a2 c2 w hsz2 hr2 ((Ext.refl wb).st hS)) (fun y32 => ?_)
          refine WD.on (closed_of (by decide +kernel)) (fun w hS => Sx.gone rfl (Sx.gone rfl (Sx.none))) ?_
          refine WD.two (i := 4) (j := 5) (by decide +kernel) rfl rfl ?_ ?_
          · skip
            refine WL.alloc F.zero25 rfl (fun b5 => ?_)
            refine WD.on (closed_of (by decide +kernel)) (fun w hS => Sx.gone rfl (Sx.gone rfl (Sx.none))) ?_
            refine WD.one (i := 5) (by decide +kernel) rfl ?_
            refine WL.alloc F.zero25 rfl (fun b6 => ?_)
            refine WD.on (closed_of (by decide +kernel)) (fun w hS => Sx.gone rfl (Sx.gone rfl (Sx.none))) ?_
            refine WD.one (i := 6) (by decide +kernel) rfl ?_
            refine WL.storeN F.agg25 rfl rfl rfl (by simp [Value.oneCell']) (by repeat (first | exact Upd.here | apply Upd.there)) (by repeat constructor) ?_
            refine WD.on (closed_of (by decide +kernel)) (fun w hS => Sx.gone rfl (Sx.gone rfl (Sx.none))) ?_
            refine WD.one (i := 7) (by decide +kernel) rfl ?_
            refine WL.storeN F.agg25 rfl rfl rfl (by simp [Value.oneCell']) (by repeat (first | exact Upd.here | apply Upd.there)) (by repeat constructor) ?_
            refine WD.on (closed_of (by decide +kernel)) (fun w hS => Sx.gone rfl (Sx.gone rfl (Sx.none))) ?_
            refine WD.done (by decide +kernel) ?_
            refine WQ.chunks (C' := [pt b2 [Value.int .u8 t.op, .string (str t.name), .slice a t.kids.length c] 25, pt b3 [Value.int .u8 u.op, .string (str u.name), .slice a2 u.kids.length c2] 25, pt b5 [Value.int .u8 t.op, .string (str t.name), .slice y30.2.1 t.kids.length y30.2.2] 25, pt b6 [Value.int .u8 u.op, .string (str u.name), .slice y32.2.1 u.kids.length y32.2.2] 25, ownW y30.1 t (tv t y30.2.1 y30.2.2), ownW y32.1 u (tv u y32.2.1 y32.2.2)]) (fun w hS => ((St.pick (St.pick (St.pick (St.pick (St.pick (St.pick hS (c := ownW y32.1 u (tv u y32.2.1 y32.2.2)) (by repeat (first | exact Rem.here | apply Rem.there))) (c := ownW y30.1 t (tv t y30.2.1 y30.2.2)) (by repeat (first | exact Rem.here | apply Rem.there))) (c := pt b6 [Value.int .u8 u.op, .string (str u.name), .slice y32.2.1 u.kids.length y32.2.2] 25) (by repeat (first | exact Rem.here | apply Rem.there))) (c := pt b5 [Value.int .u8 t.op, .string (str t.name), .slice y30.2.1 t.kids.length y30.2.2] 25) (by repeat (first | exact Rem.here | apply Rem.there))) (c := pt b3 [Value.int .u8 u.op, .string (str u.name), .slice a2 u.kids.length c2] 25) (by repeat (first | exact Rem.here | apply Rem.there))) (c := pt b2 [Value.int .u8 t.op, .string (str t.name), .slice a t.kids.length c] 25) (by repeat (first | exact Rem.here | apply Rem.there)))).sublist (List.Sublist.cons_cons _ (List.Sublist.cons_cons _ (List.Sublist.cons_cons _ (List.Sublist.cons_cons _ (List.Sublist.cons_cons _ (List.Sublist.cons_cons _ (List.nil_sublist _)))))))) ?_
            exact WQ.byCut (hQ ((b5, b6), y30, y32)) ⟨rfl, rfl, rfl, rfl, trivial⟩
          · skip
            refine WL.alloc F.zero25 rfl (fun b6 => ?_)
            refine WD.on (closed_of (by decide +kernel)) (fun w hS => Sx.gone rfl (Sx.gone rfl (Sx.none))) ?_
            refine WD.one (i := 4) (by decide +kernel) rfl ?_
            refine WL.alloc F.zero25 rfl (fun b5 => ?_)
            refine WD.on (closed_of (by decide +kernel)) (fun w hS => Sx.gone rfl (Sx.gone rfl (Sx.none))) ?_
            refine WD.one (i := 6) (by decide +kernel) rfl ?_
            refine WL.storeN F.agg25 rfl rfl rfl (by simp [Value.oneCell']) (by repeat (first | exact Upd.here | apply Upd.there)) (by repeat constructor) ?_
            refine WD.on (closed_of (by decide +kernel)) (fun w hS => Sx.gone rfl (Sx.gone rfl (Sx.none))) ?_
            refine WD.one (i := 7) (by decide +kernel) rfl ?_
            refine WL.storeN F.agg25 rfl rfl rfl (by simp [Value.oneCell']) (by repeat (first | exact Upd.here | apply Upd.there)) (by repeat constructor) ?_
            refine WD.on (closed_of (by decide +kernel)) (fun w hS => Sx.gone rfl (Sx.gone rfl (Sx.none))) ?_
            refine WD.done (by decide +kernel) ?_
            refine WQ.chunks (C' := [pt b2 [Value.int .u8 t.op, .string (str t.name), .slice a t.kids.length c] 25, pt b3 [Value.int .u8 u.op, .string (str u.name), .slice a2 u.kids.length c2] 25, pt b5 [Value.int .u8 t.op, .string (str t.name), .slice y30.2.1 t.kids.length y30.2.2] 25, pt b6 [Value.int .u8 u.op, .string (str u.name), .slice y32.2.1 u.kids.length y32.2.2] 25, ownW y30.1 t (tv t y30.2.1 y30.2.2), ownW y32.1 u (tv u y32.2.1 y32.2.2)]) (fun w hS => ((St.pick (St.pick (St.pick (St.pick (St.pick (St.pick hS (c := ownW y32.1 u (tv u y32.2.1 y32.2.2)) (by repeat (first | exact Rem.here | apply Rem.there))) (c := ownW y30.1 t (tv t y30.2.1 y30.2.2)) (by repeat (first | exact Rem.here | apply Rem.there))) (c := pt b6 [Value.int .u8 u.op, .string (str u.name), .slice y32.2.1 u.kids.length y32.2.2] 25) (by repeat (first | exact Rem.here | apply Rem.there))) (c := pt b5 [Value.int .u8 t.op, .string (str t.name), .slice y30.2.1 t.kids.length y30.2.2] 25) (by repeat (first | exact Rem.here | apply Rem.there))) (c := pt b3 [Value.int .u8 u.op, .string (str u.name), .slice a2 u.kids.length c2] 25) (by repeat (first | exact Rem.here | apply Rem.there))) (c := pt b2 [Value.int .u8 t.op, .string (str t.name), .slice a t.kids.length c] 25) (by repeat (first | exact Rem.here | apply Rem.there)))).sublist (List.Sublist.cons_cons _ (List.Sublist.cons_cons _ (List.Sublist.cons_cons _ (List.Sublist.cons_cons _ (List.Sublist.cons_cons _ (List.Sublist.cons_cons _ (List.nil_sublist _)))))))) ?_
            exact WQ.byCut (hQ ((b5, b6), y30, y32)) ⟨rfl, rfl, rfl, rfl, trivial⟩
        · skip
          refine WL.alloc F.zero25 rfl (fun b5 => ?_)
          refine WD.on (closed_of (by decide +kernel)) (fun w hS => Sx.gone rfl (Sx.keep ((fun j v hv => by rw [Nat.zero_add]; exact hS.cell (by repeat (first | exact List.Mem.head _ | apply List.Mem.tail)) hv)) (Sx.none))) ?_
          refine WD.two (i := 3) (j := 5) (by decide +kernel) rfl rfl ?_ ?_
          · skip
            refine WL.callC (β := List Nat × Option Addr × Nat) (res := fun y => tv u y.2.1 y.2.2) (cs := fun y => [ownW y.1 u (tv u y.2.1 y.2.2)]) (Cs := []) (O' := []) F.fun18 (fun d h => by cases h; rfl) rfl (List.Perm.refl _) (by simp) (by simp) (fun w hS _ => CopiedW_c 1200 (by decide) u wb H a2 c2 w hsz2 hr2 ((Ext.refl wb).st hS)) (fun y32 => ?_)
            refine WD.on (closed_of (by decide +kernel)) (fun w hS => Sx.gone rfl (Sx.gone rfl (Sx.none))) ?_
            refine WD.one (i := 5) (by decide +kernel) rfl ?_
            refine WL.alloc F.zero25 rfl (fun b6 => ?_)
            refine WD.on (closed_of (by decide +kernel)) (fun w hS => Sx.gone rfl (Sx.gone rfl (Sx.none))) ?_
            refine WD.one (i := 6) (by decide +kernel) rfl ?_
            refine WL.storeN F.agg25 rfl rfl rfl (by simp [Value.oneCell']) (by repeat (first | exact Upd.here | apply Upd.there)) (by repeat constructor) ?_
            refine WD.on (closed_of (by decide +kernel)) (fun w hS => Sx.gone rfl (Sx.gone rfl (Sx.none))) ?_
            refine WD.one (i := 7) (by decide +kernel) rfl ?_
            refine WL.storeN F.agg25 rfl rfl rfl (by simp [Value.oneCell']) (by repeat (first | exact Upd.here | apply Upd.there)) (by repeat constructor) ?_
            refine WD.on (closed_of (by decide +kernel)) (fun w hS => Sx.gone rfl (Sx.gone rfl (Sx.none))) ?_
            refine WD.done (by decide +kernel) ?_
            refine WQ.chunks (C' := [pt b2 [Value.int .u8 t.op, .string (str t.name), .slice a t.kids.length c] 25, pt b3 [Value.int .u8 u.op, .string (str u.name), .slice a2 u.kids.length c2] 25, pt b5 [Value.int .u8 t.op, .string (str t.name), .slice y30.2.1 t.kids.length y30.2.2] 25, pt b6 [Value.int .u8 u.op, .string (str u.name), .slice y32.2.1 u.kids.length y32.2.2] 25, ownW y30.1 t (tv t y30.2.1 y30.2.2), ownW y32.1 u (tv u y32.2.1 y32.2.2)]) (fun w hS => ((St.pick (St.pick (St.pick (St.pick (St.pick (St.pick hS (c := ownW y32.1 u (tv u y32.2.1 y32.2.2)) (by repeat (first | exact Rem.here | apply Rem.there))) (c := ownW y30.1 t (tv t y30.2.1 y30.2.2)) (by repeat (first | exact Rem.here | apply Rem.there))) (c := pt b6 [Value.int .u8 u.op, .string (str u.name), .slice y32.2.1 u.kids.length y32.2.2] 25) (by repeat (first | exact Rem.here | apply Rem.there))) (c := pt b5 [Value.int .u8 t.op, .string (str t.name), .slice y30.2.1 t.kids.length y30.2.2] 25) (by repeat (first | exact Rem.here | apply Rem.there))) (c := pt b3 [Value.int .u8 u.op, .string (str u.name), .slice a2 u.kids.length c2] 25) (by repeat (first | exact Rem.here | apply Rem.there))) (c := pt b2 [Value.int .u8 t.op, .string (str t.name), .slice a t.kids.length c] 25) (by repeat (first | exact Rem.here | apply Rem.there)))).sublist (List.Sublist.cons_cons _ (List.Sublist.cons_cons _ (List.Sublist.cons_cons _ (List.Sublist.cons_cons _ (List.Sublist.cons_cons _ (List.Sublist.cons_cons _ (List.nil_sublist _)))))))) ?_
            exact WQ.byCut (hQ ((b5, b6), y30, y32)) ⟨rfl, rfl, rfl, rfl, trivial⟩
          · skip
            refine WL.alloc F.zero25 rfl (fun b6 => ?_)
            refine WD.on (closed_of (by decide +kernel)) (fun w hS => Sx.gone rfl (Sx.keep ((fun j v hv => by rw [Nat.zero_add]; exact hS.cell (by repeat (first | exact List.Mem.head _ | apply List.Mem.tail)) hv)) (Sx.none))) ?_
            refine WD.one (i := 3) (by decide +kernel) rfl ?_
            refine WL.callC (β := List Nat × Option Addr × Nat) (res := fun y => tv u y.2.1 y.2.2) (cs := fun y => [ownW y.1 u (tv u y.2.1 y.2.2)]) (Cs := []) (O' := []) F.fun18 (fun d h => by cases h; rfl) rfl (List.Perm.refl _) (by simp) (by simp) (fun w hS _ => CopiedW_c 1200 (by decide) u wb H a2 c2 w hsz2 hr2 ((Ext.refl wb).st hS)) (fun y32 => ?_)
            refine WD.on (closed_of (by decide +kernel)) (fun w hS => Sx.gone rfl (Sx.gone rfl (Sx.none))) ?_
            refine WD.one (i := 6) (by decide +kernel) rfl ?_
            refine WL.storeN F.agg25 rfl rfl rfl (by simp [Value.oneCell']) (by repeat (first | exact Upd.here | apply Upd.there)) (by repeat constructor) ?_
            refine WD.on (closed_of (by decide +kernel)) (fun w hS => Sx.gone rfl (Sx.gone rfl (Sx.none))) ?_
            refine WD.one (i := 7) (by decide +kernel) rfl ?_
            refine WL.storeN F.agg25 rfl rfl rfl (by simp [Value.oneCell']) (by repeat (first | exact Upd.here | apply Upd.there)) (by repeat constructor) ?_
            refine WD.on (closed_of (by decide +kernel)) (fun w hS => Sx.gone rfl (Sx.gone rfl (Sx.none))) ?_
            refine WD.done (by decide +kernel) ?_
            refine WQ.chunks (C' := [pt b2 [Value.int .u8 t.op, .string (str t.name), .slice a t.kids.length c] 25, pt b3 [Value.int .u8 u.op, .string (str u.name), .slice a2 u.kids.length c2] 25, pt b5 [Value.int .u8 t.op, .string (str t.name), .slice y30.2.1 t.kids.length y30.2.2] 25, pt b6 [Value.int .u8 u.op, .string (str u.name), .slice y32.2.1 u.kids.length y32.2.2] 25, ownW y30.1 t (tv t y30.2.1 y30.2.2), ownW y32.1 u (tv u y32.2.1 y32.2.2)]) (fun w hS => ((St.pick (St.pick (St.pick (St.pick (St.pick (St.pick hS (c := ownW y32.1 u (tv u y32.2.1 y32.2.2)) (by repeat (first | exact Rem.here | apply Rem.there))) (c := ownW y30.1 t (tv t y30.2.1 y30.2.2)) (by repeat (first | exact Rem.here | apply Rem.there))) (c := pt b6 [Value.int .u8 u.op, .string (str u.name), .slice y32.2.1 u.kids.length y32.2.2] 25) (by repeat (first | exact Rem.here | apply Rem.there))) (c := pt b5 [Value.int .u8 t.op, .string (str t.name), .slice y30.2.1 t.kids.length y30.2.2] 25) (by repeat (first | exact Rem.here | apply Rem.there))) (c := pt b3 [Value.int .u8 u.op, .string (str u.name), .slice a2 u.kids.length c2] 25) (by repeat (first | exact Rem.here | apply Rem.there))) (c := pt b2 [Value.int .u8 t.op, .string (str t.name), .slice a t.kids.length c] 25) (by repeat (first | exact Rem.here | apply Rem.there)))).sublist (List.Sublist.cons_cons _ (List.Sublist.cons_cons _ (List.Sublist.cons_cons _ (List.Sublist.cons_cons _ (List.Sublist.cons_cons _ (List.Sublist.cons_cons _ (List.nil_sublist _)))))))) ?_
            exact WQ.byCut (hQ ((b5, b6), y30, y32)) ⟨rfl, rfl, rfl, rfl, trivial⟩
        · skip
          refine WL.alloc F.zero25 rfl (fun b6 => ?_)
          refine WD.on (closed_of (by decide +kernel)) (fun w hS => Sx.gone rfl (Sx.keep ((fun j v hv => by rw [Nat.zero_add]; exact hS.cell (by repeat (first | exact List.Mem.head _ | apply List.Mem.tail)) hv)) (Sx.none))) ?_
          refine WD.two (i := 3) (j := 4) (by decide +kernel) rfl rfl ?_ ?_
          · skip
            refine WL.callC (β := List Nat × Option Addr × Nat) (res := fun y => tv u y.2.1 y.2.2) (cs := fun y => [ownW y.1 u (tv u y.2.1 y.2.2)]) (Cs := []) (O' := []) F.fun18 (fun d h => by cases h; rfl) rfl (List.Perm.refl _) (by simp) (by simp) (fun w hS _ => CopiedW_c 1200 (by decide) u wb H a2 c2 w hsz2 hr2 ((Ext.refl wb).st hS)) (fun y32 => ?_)
            refine WD.on (closed_of (by decide +kernel)) (fun w hS => Sx.gone rfl (Sx.gone rfl (Sx.none))) ?_
            refine WD.one (i := 4) (by decide +kernel) rfl ?_
            refine WL.alloc F.zero25 rfl (fun b5 => ?_)
            refine WD.on (closed_of (by decide +kernel)) (fun w hS => Sx.gone rfl (Sx.gone rfl (Sx.none))) ?_
            refine WD.one (i := 6) (by decide +kernel) rfl ?_
            refine WL.storeN F.agg25 rfl rfl rfl (by simp [Value.oneCell']) (by repeat (first | exact Upd.here | apply Upd.there)) (by repeat constructor) ?_
            refine WD.on (closed_of (by decide +kernel)) (fun w hS => Sx.gone rfl (Sx.gone rfl (Sx.none))) ?_
            refine WD.one (i := 7) (by decide +kernel) rfl ?_
            refine WL.storeN F.agg25 rfl rfl rfl (by simp [Value.oneCell']) (by repeat (first | exact Upd.here | apply Upd.there)) (by repeat constructor) ?_
            refine WD.on (closed_of (by decide +kernel)) (fun w hS => Sx.gone rfl (Sx.gone rfl (Sx.none))) ?_
            refine WD.done (by decide +kernel) ?_
            refine WQ.chunks (C' := [pt b2 [Value.int .u8 t.op, .string (str t.name), .slice a t.kids.length c] 25, pt b3 [Value.int .u8 u.op, .string (str u.name), .slice a2 u.kids.length c2] 25, pt b5 [Value.int .u8 t.op, .string (str t.name), .slice y30.2.1 t.kids.length y30.2.2] 25, pt b6 [Value.int .u8 u.op, .string (str u.name), .slice y32.2.1 u.kids.length y32.2.2] 25, ownW y30.1 t (tv t y30.2.1 y30.2.2), ownW y32.1 u (tv u y32.2.1 y32.2.2)]) (fun w hS => ((St.pick (St.pick (St.pick (St.pick (St.pick (St.pick hS (c := ownW y32.1 u (tv u y32.2.1 y32.2.2)) (by repeat (first | exact Rem.here | apply Rem.there))) (c := ownW y30.1 t (tv t y30.2.1 y30.2.2)) (by repeat (first | exact Rem.here | apply Rem.there))) (c := pt b6 [Value.int .u8 u.op, .string (str u.name), .slice y32.2.1 u.kids.length y32.2.2] 25) (by repeat (first | exact Rem.here | apply Rem.there))) (c := pt b5 [Value.int .u8 t.op, .string (str t.name), .slice y30.2.1 t.kids.length y30.2.2] 25) (by repeat (first | exact Rem.here | apply Rem.there))) (c := pt b3 [Value.int .u8 u.op, .string (str u.name), .slice a2 u.kids.length c2] 25) (by repeat (first | exact Rem.here | apply Rem.there))) (c := pt b2 [Value.int .u8 t.op, .string (str t.name), .slice a t.kids.length c] 25) (by repeat (first | exact Rem.here | apply Rem.there)))).sublist (List.Sublist.cons_cons _ (List.Sublist.cons_cons _ (List.Sublist.cons_cons _ (List.Sublist.cons_cons _ (List.Sublist.cons_cons _ (List.Sublist.cons_cons _ (List.nil_sublist _)))))))) ?_
            exact WQ.byCut (hQ ((b5, b6), y30, y32)) ⟨rfl, rfl, rfl, rfl, trivial⟩
          · skip
            refine WL.alloc F.zero25 rfl (fun b5 => ?_)
            refine WD.on (closed_of (by decide +kernel)) (fun w hS => Sx.gone rfl (Sx.keep ((fun j v hv => by rw [Nat.zero_add]; exact hS.cell (by repeat (first | exact List.Mem.head _ | apply List.Mem.tail)) hv)) (Sx.none))) ?_
            refine WD.one (i := 3) (by decide +kernel) rfl ?_
            refine WL.callC (β := List Nat × Option Addr × Nat) (res := fun y => tv u y.2.1 y.2.2) (cs := fun y => [ownW y.1 u (tv u y.2.1 y.2.2)]) (Cs := []) (O' := []) F.fun18 (fun d h => by cases h; rfl) rfl (List.Perm.refl _) (by simp) (by simp) (fun w hS _ => CopiedW_c 1200 (by decide) u wb H a2 c2 w hsz2 hr2 ((Ext.refl wb).st hS)) (fun y32 => ?_)
            refine WD.on (closed_of (by decide +kernel)) (fun w hS => Sx.gone rfl (Sx.gone rfl (Sx.none))) ?_
            refine WD.one (i := 6) (by decide +kernel) rfl ?_
            refine WL.storeN F.agg25 rfl rfl rfl (by simp [Value.oneCell']) (by repeat (first | exact Upd.here | apply Upd.there)) (by repeat constructor) ?_
            refine WD.on (closed_of (by decide +kernel)) (fun w hS => Sx.gone rfl (Sx.gone rfl (Sx.none))) ?_
            refine WD.one (i := 7) (by decide +kernel) rfl ?_
            refine WL.storeN F.agg25 rfl rfl rfl (by simp [Value.oneCell']) (by repeat (first | exact Upd.here | apply Upd.there)) (by repeat constructor) ?_
            refine WD.on (closed_of (by decide +kernel)) (fun w hS => Sx.gone rfl (Sx.gone rfl (Sx.none))) ?_
            refine WD.done (by decide +kernel) ?_
            refine WQ.chunks (C' := [pt b2 [Value.int .u8 t.op, .string (str t.name), .slice a t.kids.length c] 25, pt b3 [Value.int .u8 u.op, .string (str u.name), .slice a2 u.kids.length c2] 25, pt b5 [Value.int .u8 t.op, .string (str t.name), .slice y30.2.1 t.kids.length y30.2.2] 25, pt b6 [Value.int .u8 u.op, .string (str u.name), .slice y32.2.1 u.kids.length y32.2.2] 25, ownW y30.1 t (tv t y30.2.1 y30.2.2), ownW y32.1 u (tv u y32.2.1 y32.2.2)]) (fun w hS => ((St.pick (St.pick (St.pick (St.pick (St.pick (St.pick hS (c := ownW y32.1 u (tv u y32.2.1 y32.2.2)) (by repeat (first | exact Rem.here | apply Rem.there))) (c := ownW y30.1 t (tv t y30.2.1 y30.2.2)) (by repeat (first | exact Rem.here | apply Rem.there))) (c := pt b6 [Value.int .u8 u.op, .string (str u.name), .slice y32.2.1 u.kids.length y32.2.2] 25) (by repeat (first | exact Rem.here | apply Rem.there))) (c := pt b5 [Value.int .u8 t.op, .string (str t.name), .slice y30.2.1 t.kids.length y30.2.2] 25) (by repeat (first | exact Rem.here | apply Rem.there))) (c := pt b3 [Value.int .u8 u.op, .string (str u.name), .slice a2 u.kids.length c2] 25) (by repeat (first | exact Rem.here | apply Rem.there))) (c := pt b2 [Value.int .u8 t.op, .string (str t.name), .slice a t.kids.length c] 25) (by repeat (first | exact Rem.here | apply Rem.there)))).sublist (List.Sublist.cons_cons _ (List.Sublist.cons_cons _ (List.Sublist.cons_cons _ (List.Sublist.cons_cons _ (List.Sublist.cons_cons _ (List.Sublist.cons_cons _ (List.nil_sublist _)))))))) ?_
            exact WQ.byCut (hQ ((b5, b6), y30, y32)) ⟨rfl, rfl, rfl, rfl, trivial⟩
      · skip
        refine WL.alloc F.zero25 rfl (fun b5 => ?_)
        refine WD.on (closed_of (by decide +kernel)) (fun w hS => Sx.keep ((fun j v hv => by rw [Nat.zero_add]; exact hS.cell (by repeat (first | exact List.Mem.head _ | apply List.Mem.tail)) hv)) (Sx.keep ((fun j v hv => by rw [Nat.zero_add]; exact hS.cell (by repeat (first | exact List.Mem.head _ | apply List.Mem.tail)) hv)) (Sx.none))) ?_
        refine WD.two (i := 1) (j := 5) (by decide +kernel) rfl rfl ?_ ?_
        · skip
          refine WL.callC (β := List Nat × Option Addr × Nat) (res := fun y => tv t y.2.1 y.2.2) (cs := fun y => [ownW y.1 t (tv t y.2.1 y.2.2)]) (Cs := []) (O' := []) F.fun18 (fun d h => by cases h; rfl) rfl (List.Perm.refl _) (by simp) (by simp) (fun w hS _ => CopiedW_c 1200 (by decide) t wb G a c w hsz hr ((Ext.refl wb).st hS)) (fun y30 => ?_)
          refine WD.on (closed_of (by decide +kernel)) (fun w hS => Sx.gone rfl (Sx.keep ((fun j v hv => by rw [Nat.zero_add]; exact hS.cell (by repeat (first | exact List.Mem.head _ | apply List.Mem.tail)) hv)) (Sx.none))) ?_
          refine WD.two (i := 3) (j := 5) (by decide +kernel) rfl rfl ?_ ?_
          · skip
            refine WL.callC (β := List Nat × Option Addr × Nat) (res := fun y => tv u y.2.1 y.2.2) (cs := fun y => [ownW y.1 u (tv u y.2.1 y.2.2)]) (Cs := []) (O' := []) F.fun18 (fun d h => by cases h; rfl) rfl (List.Perm.refl _) (by simp) (by simp) (fun w hS _ => CopiedW_c 1200 (by decide) u wb H a2 c2 w hsz2 hr2 ((Ext.refl wb).st hS)) (fun y32 => ?_)
            refine WD.on (closed_of (by decide +kernel)) (fun w hS => Sx.gone rfl (Sx.gone rfl (Sx.none))) ?_
            refine WD.one (i := 5) (by decide +kernel) rfl ?_
            refine WL.alloc F.zero25 rfl (fun b6 => ?_)
            refine WD.on (closed_of (by decide +kernel)) (fun w hS => Sx.gone rfl (Sx.gone rfl (Sx.none))) ?_
            refine WD.one (i := 6) (by decide +kernel) rfl ?_
            refine WL.storeN F.agg25 rfl rfl rfl (by simp [Value.oneCell']) (by repeat (first | exact Upd.here | apply Upd.there)) (by repeat constructor) ?_
            refine WD.on (closed_of (by decide +kernel)) (fun w hS => Sx.gone rfl (Sx.gone rfl (Sx.none))) ?_
            refine WD.one (i := 7) (by decide +kernel) rfl ?_
            refine WL.storeN F.agg25 rfl rfl rfl (by simp [Value.oneCell']) (by repeat (first | exact Upd.here | apply Upd.there)) (by repeat constructor) ?_
            refine WD.on (closed_of (by decide +kernel)) (fun w hS => Sx.gone rfl (Sx.gone rfl (Sx.none))) ?_
            refine WD.done (by decide +kernel) ?_
            refine WQ.chunks (C' := [pt b2 [Value.int .u8 t.op, .string (str t.name), .slice a t.kids.length c] 25, pt b3 [Value.int .u8 u.op, .string (str u.name), .slice a2 u.kids.length c2] 25, pt b5 [Value.int .u8 t.op, .string (str t.name), .slice y30.2.1 t.kids.length y30.2.2] 25, pt b6 [Value.int .u8 u.op, .string (str u.name), .slice y32.2.1 u.kids.length y32.2.2] 25, ownW y30.1 t (tv t y30.2.1 y30.2.2), ownW y32.1 u (tv u y32.2.1 y32.2.2)]) (fun w hS => ((St.pick (St.pick (St.pick (St.pick (St.pick (St.pick hS (c := ownW y32.1 u (tv u y32.2.1 y32.2.2)) (by repeat (first | exact Rem.here | apply Rem.there))) (c := ownW y30.1 t (tv t y30.2.1 y30.2.2)) (by repeat (first | exact Rem.here | apply Rem.there))) (c := pt b6 [Value.int .u8 u.op, .string (str u.name), .slice y32.2.1 u.kids.length y32.2.2] 25) (by repeat (first | exact Rem.here | apply Rem.there))) (c := pt b5 [Value.int .u8 t.op, .string (str t.name), .slice y30.2.1 t.kids.length y30.2.2] 25) (by repeat (first | exact Rem.here | apply Rem.there))) (c := pt b3 [Value.int .u8 u.op, .string (str u.name), .slice a2 u.kids.length c2] 25) (by repeat (first | exact Rem.here | apply Rem.there))) (c := pt b2 [Value.int .u8 t.op, .string (str t.name), .slice a t.kids.length c] 25) (by repeat (first | exact Rem.here | apply Rem.there)))).sublist (List.Sublist.cons_cons _ (List.Sublist.cons_cons _ (List.Sublist.cons_cons _ (List.Sublist.cons_cons _ (List.Sublist.cons_cons _ (List.Sublist.cons_cons _ (List.nil_sublist _)))))))) ?_
            exact WQ.byCut (hQ ((b5, b6), y30, y32)) ⟨rfl, rfl, rfl, rfl, trivial⟩
          · skip
            refine WL.alloc F.zero25 rfl (fun b6 => ?_)
            refine WD.on (closed_of (by decide +kernel)) (fun w hS => Sx.gone rfl (Sx.keep ((fun j v hv => by rw [Nat.zero_add]; exact hS.cell (by repeat (first | exact List.Mem.head _ | apply List.Mem.tail)) hv)) (Sx.none))) ?_
            refine WD.one (i := 3) (by decide +kernel) rfl ?_
            refine WL.callC (β := List Nat × Option Addr × Nat) (res := fun y => tv u y.2.1 y.2.2) (cs := fun y => [ownW y.1 u (tv u y.2.1 y.2.2)]) (Cs := []) (O' := []) F.fun18 (fun d h => by cases h; rfl) rfl (List.Perm.refl _) (by simp) (by simp) (fun w hS _ => CopiedW_c 1200 (by decide) u wb H a2 c2 w hsz2 hr2 ((Ext.refl wb).st hS)) (fun y32 => ?_)
            refine WD.on (closed_of (by decide +kernel)) (fun w hS => Sx.gone rfl (Sx.gone rfl (Sx.none))) ?_
            refine WD.one (i := 6) (by decide +kernel) rfl ?_
            refine WL.storeN F.agg25 rfl rfl rfl (by simp [Value.oneCell']) (by repeat (first | exact Upd.here | apply Upd.there)) (by repeat constructor) ?_
            refine WD.on (closed_of (by decide +kernel)) (fun w hS => Sx.gone rfl (Sx.gone rfl (Sx.none))) ?_
            refine WD.one (i := 7) (by decide +kernel) rfl ?_
            refine WL.storeN F.agg25 rfl rfl rfl (by simp [Value.oneCell']) (by repeat (first | exact Upd.here | apply Upd.there)) (by repeat constructor) ?_
            refine WD.on (closed_of (by decide +kernel)) (fun w hS => Sx.gone rfl (Sx.gone rfl (Sx.none))) ?_
            refine WD.done (by decide +kernel) ?_
            refine WQ.chunks (C' := [pt b2 [Value.int .u8 t.op, .string (str t.name), .slice a t.kids.length c] 25, pt b3 [Value.int .u8 u.op, .string (str u.name), .slice a2 u.kids.length c2] 25, pt b5 [Value.int .u8 t.op, .string (str t.name), .slice y30.2.1 t.kids.length y30.2.2] 25, pt b6 [Value.int .u8 u.op, .string (str u.name), .slice y32.2.1 u.kids.length y32.2.2] 25, ownW y30.1 t (tv t y30.2.1 y30.2.2), ownW y32.1 u (tv u y32.2.1 y32.2.2)]) (fun w hS => ((St.pick (St.pick (St.pick (St.pick (St.pick (St.pick hS (c := ownW y32.1 u (tv u y32.2.1 y32.2.2)) (by repeat (first | exact Rem.here | apply Rem.there))) (c := ownW y30.1 t (tv t y30.2.1 y30.2.2)) (by repeat (first | exact Rem.here | apply Rem.there))) (c := pt b6 [Value.int .u8 u.op, .string (str u.name), .slice y32.2.1 u.kids.length y32.2.2] 25) (by repeat (first | exact Rem.here | apply Rem.there))) (c := pt b5 [Value.int .u8 t.op, .string (str t.name), .slice y30.2.1 t.kids.length y30.2.2] 25) (by repeat (first | exact Rem.here | apply Rem.there))) (c := pt b3 [Value.int .u8 u.op, .string (str u.name), .slice a2 u.kids.length c2] 25) (by repeat (first | exact Rem.here | apply Rem.there))) (c := pt b2 [Value.int .u8 t.op, .string (str t.name), .slice a t.kids.length c] 25) (by repeat (first | exact Rem.here | apply Rem.there)))).sublist (List.Sublist.cons_cons _ (List.Sublist.cons_cons _ (List.Sublist.cons_cons _ (List.Sublist.cons_cons _ (List.Sublist.cons_cons _ (List.Sublist.cons_cons _ (List.nil_sublist _)))))))) ?_
            exact WQ.byCut (hQ ((b5, b6), y30, y32)) ⟨rfl, rfl, rfl, rfl, trivial⟩
        · skip
          refine WL.alloc F.zero25 rfl (fun b6 => ?_)
          refine WD.on (closed_of (by decide +kernel)) (fun w hS => Sx.keep ((fun j v hv => by rw [Nat.zero_add]; exact hS.cell (by repeat (first | exact List.Mem.head _ | apply List.Mem.tail)) hv)) (Sx.keep ((fun j v hv => by rw [Nat.zero_add]; exact hS.cell (by repeat (first | exact List.Mem.head _ | apply List.Mem.tail)) hv)) (Sx.none))) ?_
          refine WD.one (i := 1) (by decide +kernel) rfl ?_
          refine WL.callC (β := List Nat × Option Addr × Nat) (res := fun y => tv t y.2.1 y.2.2) (cs := fun y => [ownW y.1 t (tv t y.2.1 y.2.2)]) (Cs := []) (O' := []) F.fun18 (fun d h => by cases h; rfl) rfl (List.Perm.refl _) (by simp) (by simp) (fun w hS _ => CopiedW_c 1200 (by decide) t wb G a c w hsz hr ((Ext.refl wb).st hS)) (fun y30 => ?_)
          refine WD.on (closed_of (by decide +kernel)) (fun w hS => Sx.gone rfl (Sx.keep ((fun j v hv => by rw [Nat.zero_add]; exact hS.cell (by repeat (first | exact List.Mem.head _ | apply List.Mem.tail)) hv)) (Sx.none))) ?_
          refine WD.one (i := 3) (by decide +kernel) rfl ?_
          refine WL.callC (β := List Nat × Option Addr × Nat) (res := fun y => tv u y.2.1 y.2.2) (cs := fun y => [ownW y.1 u (tv u y.2.1 y.2.2)]) (Cs := []) (O' := []) F.fun18 (fun d h => by cases h; rfl) rfl (List.Perm.refl _) (by simp) (by simp) (fun w hS _ => CopiedW_c 1200 (by decide) u wb H a2 c2 w hsz2 hr2 ((Ext.refl wb).st hS)) (fun y32 => ?_)
          refine WD.on (closed_of (by decide +kernel)) (fun w hS => Sx.gone rfl (Sx.gone rfl (Sx.none))) ?_
          refine WD.one (i := 6) (by decide +kernel) rfl ?_
          refine WL.storeN F.agg25 rfl rfl rfl (by simp [Value.oneCell']) (by repeat (first | exact Upd.here | apply Upd.there)) (by repeat constructor) ?_
          refine WD.on (closed_of (by decide +kernel)) (fun w hS => Sx.gone rfl (Sx.gone rfl (Sx.none))) ?_
          refine WD.one (i := 7) (by decide +kernel) rfl ?_
          refine WL.storeN F.agg25 rfl rfl rfl (by simp [Value.oneCell']) (by repeat (first | exact Upd.here | apply Upd.there)) (by repeat constructor) ?_
          refine WD.on (closed_of (by decide +kernel)) (fun w hS => Sx.gone rfl (Sx.gone rfl (Sx.none))) ?_
          refine WD.done (by decide +kernel) ?_
          refine WQ.chunks (C' := [pt b2 [Value.int .u8 t.op, .string (str t.name), .slice a t.kids.length c] 25, pt b3 [Value.int .u8 u.op, .string (str u.name), .slice a2 u.kids.length c2] 25, pt b5 [Value.int .u8 t.op, .string (str t.name), .slice y30.2.1 t.kids.length y30.2.2] 25, pt b6 [Value.int .u8 u.op, .string (str u.name), .slice y32.2.1 u.kids.length y32.2.2] 25, ownW y30.1 t (tv t y30.2.1 y30.2.2), ownW y32.1 u (tv u y32.2.1 y32.2.2)]) (fun w hS => ((St.pick (St.pick (St.pick (St.pick (St.pick (St.pick hS (c := ownW y32.1 u (tv u y32.2.1 y32.2.2)) (by repeat (first | exact Rem.here | apply Rem.there))) (c := ownW y30.1 t (tv t y30.2.1 y30.2.2)) (by repeat (first | exact Rem.here | apply Rem.there))) (c := pt b6 [Value.int .u8 u.op, .string (str u.name), .slice y32.2.1 u.kids.length y32.2.2] 25) (by repeat (first | exact Rem.here | apply Rem.there))) (c := pt b5 [Value.int .u8 t.op, .string (str t.name), .slice y30.2.1 t.kids.length y30.2.2] 25) (by repeat (first | exact Rem.here | apply Rem.there))) (c := pt b3 [Value.int .u8 u.op, .string (str u.name), .slice a2 u.kids.length c2] 25) (by repeat (first | exact Rem.here | apply Rem.there))) (c := pt b2 [Value.int .u8 t.op, .string (str t.name), .slice a t.kids.length c] 25) (by repeat (first | exact Rem.here | apply Rem.there)))).sublist (List.Sublist.cons_cons _ (List.Sublist.cons_cons _ (List.Sublist.cons_cons _ (List.Sublist.cons_cons _ (List.Sublist.cons_cons _ (List.Sublist.cons_cons _ (List.nil_sublist _)))))))) ?_
          exact WQ.byCut (hQ ((b5, b6), y30, y32)) ⟨rfl, rfl, rfl, rfl, trivial⟩
      · skip
        refine WL.alloc F.zero25 rfl (fun b6 => ?_)
        refine WD.on (closed_of (by decide +kernel)) (fun w hS => Sx.keep ((fun j v hv => by rw [Nat.zero_add]; exact hS.cell (by repeat (first | exact List.Mem.head _ | apply List.Mem.tail)) hv)) (Sx.keep ((fun j v hv => by rw [Nat.zero_add]; exact hS.cell (by repeat (first | exact List.Mem.head _ | apply List.Mem.tail)) hv)) (Sx.none))) ?_
        refine WD.two (i := 1) (j := 4) (by decide +kernel) rfl rfl ?_ ?_
        · skip
          refine WL.callC (β := List Nat × Option Addr × Nat) (res := fun y => tv t y.2.1 y.2.2) (cs := fun y => [ownW y.1 t (tv t y.2.1 y.2.2)]) (Cs := []) (O' := []) F.fun18 (fun d h => by cases h; rfl) rfl (List.Perm.refl _) (by simp) (by simp) (fun w hS _ => CopiedW_c 1200 (by decide) t wb G a c w hsz hr ((Ext.refl wb).st hS)) (fun y30 => ?_)
          refine WD.on (closed_of (by decide +kernel)) (fun w hS => Sx.gone rfl (Sx.keep ((fun j v hv => by rw [Nat.zero_add]; exact hS.cell (by repeat (first | exact List.Mem.head _ | apply List.Mem.tail)) hv)) (Sx.none))) ?_
          refine WD.two (i := 3) (j := 4) (by decide +kernel) rfl rfl ?_ ?_
          · skip
            refine WL.callC (β := List Nat × Option Addr × Nat) (res := fun y => tv u y.2.1 y.2.2) (cs := fun y => [ownW y.1 u (tv u y.2.1 y.2.2)]) (Cs := []) (O' := []) F.fun18 (fun d h => by cases h; rfl) rfl (List.Perm.refl _) (by simp) (by simp) (fun w hS _ => CopiedW_c 1200 (by decide) u wb H a2 c2 w hsz2 hr2 ((Ext.refl wb).st hS)) (fun y32 => ?_)
            refine WD.on (closed_of (by decide +kernel)) (fun w hS => Sx.gone rfl (Sx.gone rfl (Sx.none))) ?_
            refine WD.one (i := 4) (by decide +kernel) rfl ?_
            refine WL.alloc F.zero25 rfl (fun b5 => ?_)
            refine WD.on (closed_of (by decide +kernel)) (fun w hS => Sx.gone rfl (Sx.gone rfl (Sx.none))) ?_
            refine WD.one (i := 6) (by decide +kernel) rfl ?_
            refine WL.storeN F.agg25 rfl rfl rfl (by simp [Value.oneCell']) (by repeat (first | exact Upd.here | apply Upd.there)) (by repeat constructor) ?_
            refine WD.on (closed_of (by decide +kernel)) (fun w hS => Sx.gone rfl (Sx.gone rfl (Sx.none))) ?_
            refine WD.one (i := 7) (by decide +kernel) rfl ?_
            refine WL.storeN F.agg25 rfl rfl rfl (by simp [Value.oneCell']) (by repeat (first | exact Upd.here | apply Upd.there)) (by repeat constructor) ?_
            refine WD.on (closed_of (by decide +kernel)) (fun w hS => Sx.gone rfl (Sx.gone rfl (Sx.none))) ?_
            refine WD.done (by decide +kernel) ?_
            refine WQ.chunks (C' := [pt b2 [Value.int .u8 t.op, .string (str t.name), .slice a t.kids.length c] 25, pt b3 [Value.int .u8 u.op, .string (str u.name), .slice a2 u.kids.length c2] 25, pt b5 [Value.int .u8 t.op, .string (str t.name), .slice y30.2.1 t.kids.length y30.2.2] 25, pt b6 [Value.int .u8 u.op, .string (str u.name), .slice y32.2.1 u.kids.length y32.2.2] 25, ownW y30.1 t (tv t y30.2.1 y30.2.2), ownW y32.1 u (tv u y32.2.1 y32.2.2)]) (fun w hS => ((St.pick (St.pick (St.pick (St.pick (St.pick (St.pick hS (c := ownW y32.1 u (tv u y32.2.1 y32.2.2)) (by repeat (first | exact Rem.here | apply Rem.there))) (c := ownW y30.1 t (tv t y30.2.1 y30.2.2)) (by repeat (first | exact Rem.here | apply Rem.there))) (c := pt b6 [Value.int .u8 u.op, .string (str u.name), .slice y32.2.1 u.kids.length y32.2.2] 25) (by repeat (first | exact Rem.here | apply Rem.there))) (c := pt b5 [Value.int .u8 t.op, .string (str t.name), .slice y30.2.1 t.kids.length y30.2.2] 25) (by repeat (first | exact Rem.here | apply Rem.there))) (c := pt b3 [Value.int .u8 u.op, .string (str u.name), .slice a2 u.kids.length c2] 25) (by repeat (first | exact Rem.here | apply Rem.there))) (c := pt b2 [Value.int .u8 t.op, .string (str t.name), .slice a t.kids.length c] 25) (by repeat (first | exact Rem.here | apply Rem.there)))).sublist (List.Sublist.cons_cons _ (List.Sublist.cons_cons _ (List.Sublist.cons_cons _ (List.Sublist.cons_cons _ (List.Sublist.cons_cons _ (List.Sublist.cons_cons _ (List.nil_sublist _)))))))) ?_
            exact WQ.byCut (hQ ((b5, b6), y30, y32)) ⟨rfl, rfl, rfl, rfl, trivial⟩
          · skip
            refine WL.alloc F.zero25 rfl (fun b5 => ?_)
            refine WD.on (closed_of (by decide +kernel)) (fun w hS => Sx.gone rfl (Sx.keep ((fun j v hv => by rw [Nat.zero_add]; exact hS.cell (by repeat (first | exact List.Mem.head _ | apply List.Mem.tail)) hv)) (Sx.none))) ?_
            refine WD.one (i := 3) (by decide +kernel) rfl ?_
            refine WL.callC (β := List Nat × Option Addr × Nat) (res := fun y => tv u y.2.1 y.2.2) (cs := fun y => [ownW y.1 u (tv u y.2.1 y.2.2)]) (Cs := []) (O' := []) F.fun18 (fun d h => by cases h; rfl) rfl (List.Perm.refl _) (by simp) (by simp) (fun w hS _ => CopiedW_c 1200 (by decide) u wb H a2 c2 w hsz2 hr2 ((Ext.refl wb).st hS)) (fun y32 => ?_)
            refine WD.on (closed_of (by decide +kernel)) (fun w hS => Sx.gone rfl (Sx.gone rfl (Sx.none))) ?_
            refine WD.one (i := 6) (by decide +kernel) rfl ?_
            refine WL.storeN F.agg25 rfl rfl rfl (by simp [Value.oneCell']) (by repeat (first | exact Upd.here | apply Upd.there)) (by repeat constructor) ?_
            refine WD.on (closed_of (by decide +kernel)) (fun w hS => Sx.gone rfl (Sx.gone rfl (Sx.none))) ?_
            refine WD.one (i := 7) (by decide +kernel) rfl ?_
            refine WL.storeN F.agg25 rfl rfl rfl (by simp [Value.oneCell']) (by repeat (first | exact Upd.here | apply Upd.there)) (by repeat constructor) ?_
            refine WD.on (closed_of (by decide +kernel)) (fun w hS => Sx.gone rfl (Sx.gone rfl (Sx.none))) ?_
            refine WD.done (by decide +kernel) ?_
            refine WQ.chunks (C' := [pt b2 [Value.int .u8 t.op, .string (str t.name), .slice a t.kids.length c] 25, pt b3 [Value.int .u8 u.op, .string (str u.name), .slice a2 u.kids.length c2] 25, pt b5 [Value.int .u8 t.op, .string (str t.name), .slice y30.2.1 t.kids.length y30.2.2] 25, pt b6 [Value.int .u8 u.op, .string (str u.name), .slice y32.2.1 u.kids.length y32.2.2] 25, ownW y30.1 t (tv t y30.2.1 y30.2.2), ownW y32.1 u (tv u y32.2.1 y32.2.2)]) (fun w hS => ((St.pick (St.pick (St.pick (St.pick (St.pick (St.pick hS (c := ownW y32.1 u (tv u y32.2.1 y32.2.2)) (by repeat (first | exact Rem.here | apply Rem.there))) (c := ownW y30.1 t (tv t y30.2.1 y30.2.2)) (by repeat (first | exact Rem.here | apply Rem.there))) (c := pt b6 [Value.int .u8 u.op, .string (str u.name), .slice y32.2.1 u.kids.length y32.2.2] 25) (by repeat (first | exact Rem.here | apply Rem.there))) (c := pt b5 [Value.int .u8 t.op, .string (str t.name), .slice y30.2.1 t.kids.length y30.2.2] 25) (by repeat (first | exact Rem.here | apply Rem.there))) (c := pt b3 [Value.int .u8 u.op, .string (str u.name), .slice a2 u.kids.length c2] 25) (by repeat (first | exact Rem.here | apply Rem.there))) (c := pt b2 [Value.int .u8 t.op, .string (str t.name), .slice a t.kids.length c] 25) (by repeat (first | exact Rem.here | apply Rem.there)))).sublist (List.Sublist.cons_cons _ (List.Sublist.cons_cons _ (List.Sublist.cons_cons _ (List.Sublist.cons_cons _ (List.Sublist.cons_cons _ (List.Sublist.cons_cons _ (List.nil_sublist _)))))))) ?_
            exact WQ.byCut (hQ ((b5, b6), y30, y32)) ⟨rfl, rfl, rfl, rfl, trivial⟩
        · skip
          refine WL.alloc F.zero25 rfl (fun b5 => ?_)
          refine WD.on (closed_of (by decide +kernel)) (fun w hS => Sx.keep ((fun j v hv => by rw [Nat.zero_add]; exact hS.cell (by repeat (first | exact List.Mem.head _ | apply List.Mem.tail)) hv)) (Sx.keep ((fun j v hv => by rw [Nat.zero_add]; exact hS.cell (by repeat (first | exact List.Mem.head _ | apply List.Mem.tail)) hv)) (Sx.none))) ?_
          refine WD.one (i := 1) (by decide +kernel) rfl ?_
          refine WL.callC (β := List Nat × Option Addr × Nat) (res := fun y => tv t y.2.1 y.2.2) (cs := fun y => [ownW y.1 t (tv t y.2.1 y.2.2)]) (Cs := []) (O' := []) F.fun18 (fun d h => by cases h; rfl) rfl (List.Perm.refl _) (by simp) (by simp) (fun w hS _ => CopiedW_c 1200 (by decide) t wb G a c w hsz hr ((Ext.refl wb).st hS)) (fun y30 => ?_)
          refine WD.on (closed_of (by decide +kernel)) (fun w hS => Sx.gone rfl (Sx.keep ((fun j v hv => by rw [Nat.zero_add]; exact hS.cell (by repeat (first | exact List.Mem.head _ | apply List.Mem.tail)) hv)) (Sx.none))) ?_
          refine WD.one (i := 3) (by decide +kernel) rfl ?_
          refine WL.callC (β := List Nat × Option Addr × Nat) (res := fun y => tv u y.2.1 y.2.2) (cs := fun y => [ownW y.1 u (tv u y.2.1 y.2.2)]) (Cs := []) (O' := []) F.fun18 (fun d h => by cases h; rfl) rfl (List.Perm.refl _) (by simp) (by simp) (fun w hS _ => CopiedW_c 1200 (by decide) u wb H a2 c2 w hsz2 hr2 ((Ext.refl wb).st hS)) (fun y32 => ?_)
          refine WD.on (closed_of (by decide +kernel)) (fun w hS => Sx.gone rfl (Sx.gone rfl (Sx.none))) ?_
          refine WD.one (i := 6) (by decide +kernel) rfl ?_
          refine WL.storeN F.agg25 rfl rfl rfl (by simp [Value.oneCell']) (by repeat (first | exact Upd.here | apply Upd.there)) (by repeat constructor) ?_
          refine WD.on (closed_of (by decide +kernel)) (fun w hS => Sx.gone rfl (Sx.gone rfl (Sx.none))) ?_
          refine WD.one (i := 7) (by decide +kernel) rfl ?_
          refine WL.storeN F.agg25 rfl rfl rfl (by simp [Value.oneCell']) (by repeat (first | exact Upd.here | apply Upd.there)) (by repeat constructor) ?_
          refine WD.on (closed_of (by decide +kernel)) (fun w hS => Sx.gone rfl (Sx.gone rfl (Sx.none))) ?_
          refine WD.done (by decide +kernel) ?_
          refine WQ.chunks (C' := [pt b2 [Value.int .u8 t.op, .string (str t.name), .slice a t.kids.length c] 25, pt b3 [Value.int .u8 u.op, .string (str u.name), .slice a2 u.kids.length c2] 25, pt b5 [Value.int .u8 t.op, .string (str t.name), .slice y30.2.1 t.kids.length y30.2.2] 25, pt b6 [Value.int .u8 u.op, .string (str u.name), .slice y32.2.1 u.kids.length y32.2.2] 25, ownW y30.1 t (tv t y30.2.1 y30.2.2), ownW y32.1 u (tv u y32.2.1 y32.2.2)]) (fun w hS => ((St.pick (St.pick (St.pick (St.pick (St.pick (St.pick hS (c := ownW y32.1 u (tv u y32.2.1 y32.2.2)) (by repeat (first | exact Rem.here | apply Rem.there))) (c := ownW y30.1 t (tv t y30.2.1 y30.2.2)) (by repeat (first | exact Rem.here | apply Rem.there))) (c := pt b6 [Value.int .u8 u.op, .string (str u.name), .slice y32.2.1 u.kids.length y32.2.2] 25) (by repeat (first | exact Rem.here | apply Rem.there))) (c := pt b5 [Value.int .u8 t.op, .string (str t.name), .slice y30.2.1 t.kids.length y30.2.2] 25) (by repeat (first | exact Rem.here | apply Rem.there))) (c := pt b3 [Value.int .u8 u.op, .string (str u.name), .slice a2 u.kids.length c2] 25) (by repeat (first | exact Rem.here | apply Rem.there))) (c := pt b2 [Value.int .u8 t.op, .string (str t.name), .slice a t.kids.length c] 25) (by repeat (first | exact Rem.here | apply Rem.there)))).sublist (List.Sublist.cons_cons _ (List.Sublist.cons_cons _ (List.Sublist.cons_cons _ (List.Sublist.cons_cons _ (List.Sublist.cons_cons _ (List.Sublist.cons_cons _ (List.nil_sublist _)))))))) ?_
          exact WQ.byCut (hQ ((b5, b6), y30, y32)) ⟨rfl, rfl, rfl, rfl, trivial⟩
    obtain ⟨⟨b5, b6⟩, y30, y32⟩ := xE
    show WQ _ _ _ _ _ _ [(2, pp b2), (3, pp b3), (5, pp b5), (6, pp b6)] [pt b2 [Value.int .u8 t.op, .string (str t.name), .slice a t.kids.length c] 25, pt b3 [Value.int .u8 u.op, .string (str u.name), .slice a2 u.kids.length c2] 25, pt b5 [Value.int .u8 t.op, .string (str t.name), .slice y30.2.1 t.kids.length y30.2.2] 25, pt b6 [Value.int .u8 u.op, .string (str u.name), .slice y32.2.1 u.kids.length y32.2.2] 25, ownW y30.1 t (tv t y30.2.1 y30.2.2), ownW y32.1 u (tv u y32.2.1 y32.2.2)]
    refine WQ.then_normal ?_
    refine WC.seq ?_
    refine WC.region ?_
    refine WL.step ?_
    refine WL.loadW F.agg25 rfl rfl (by repeat (first | exact List.Mem.head _ | apply List.Mem.tail)) rfl ?_
    refine WL.step ?_
    refine WL.loadW F.agg25 rfl rfl (by repeat (first | exact List.Mem.head _ | apply List.Mem.tail)) rfl ?_
    refine WL.step ?_
    refine WL.callC (β := List Nat × Option Addr × Nat) (res := fun y => .tuple #[tv (repE [97] u t).1 y.2.1 y.2.2, .int .i64 (repE [97] u t).2]) (cs := fun y => [ownW y.1 (repE [97] u t).1 (tv (repE [97] u t).1 y.2.1 y.2.2)]) (Cs := []) (O' := []) F.fun40 (fun d h => by cases h; rfl) rfl (List.Perm.refl _) (by simp) (by simp) (fun w hS _ => ReplaceW_c t u [97] w y30.1 y32.1 y30.2.1 y32.2.1 y30.2.2 y32.2.2 (rdW_T (hS.ok (ownW y30.1 t (tv t y30.2.1 y30.2.2)) (by repeat (first | exact List.Mem.head _ | apply List.Mem.tail))).2) (rdW_T (hS.ok (ownW y32.1 u (tv u y32.2.1 y32.2.2)) (by repeat (first | exact List.Mem.head _ | apply List.Mem.tail))).2)) (fun y36 => ?_)
    refine WL.step ?_
    refine WL.move rfl rfl ?_
    refine WL.step ?_
    refine WL.extract rfl rfl rfl ?_
    refine WL.step ?_
    refine WL.extract rfl rfl rfl ?_
    refine WL.step ?_
    refine WL.alloc F.zero25 rfl (fun b7 => ?_)
    refine WL.step ?_
    refine WL.storeN F.agg25 rfl rfl rfl (by simp [Value.oneCell']) (by repeat (first | exact Upd.here | apply Upd.there)) (by repeat constructor) ?_
    refine WL.step ?_
    refine WL.assign rfl rfl ?_
    refine WL.nil ?_
    refine WQ.then_normal ?_
    refine WC.seq ?_
    refine WC.seq ?_
    refine WC.region ?_
    refine WL.step ?_
    refine WL.move rfl rfl ?_
    refine WL.step ?_
    refine WL.eqI rfl rfl rfl ?_
    refine WL.nil ?_
    refine WQ.then_normal ?_
    refine WC.cond rfl (fun h40 => ?_) (fun h40 => ?_)
    · skip
      have h40b : (repE [97] u t).2 = 0 := by simpa using h40
      obtain ⟨hR1, hRv⟩ := repE_ok h40b
      rw [hR1] at hrs ⊢
      have hsr : (Fm.rowT (replT [97] u t)).length ≤ 1200 := hrs
      have hnm := valid_names hRv
      refine WC.seq ?_
      refine WC.region ?_
      refine WL.step ?_
      refine WL.loadW F.agg25 rfl rfl (by repeat (first | exact List.Mem.head _ | apply List.Mem.tail)) rfl ?_
      refine WL.step ?_
      refine WL.loadW F.agg25 rfl rfl (by repeat (first | exact List.Mem.head _ | apply List.Mem.tail)) rfl ?_
      refine WL.step ?_
      refine WL.callC (β := List Nat × Option Addr × Nat) (res := fun y => tv (replT [97] u t) y.2.1 y.2.2) (cs := fun y => [shr wb y.1 (replT [97] u t) (tv (replT [97] u t) y.2.1 y.2.2)]) (Cs := []) (O' := []) F.fun42 (fun d h => by cases h; rfl) rfl (List.Perm.refl _) (by simp) (by simp) (fun w hS _ => Rpd_c 1200 (by decide) t u [97] wb G H a a2 c c2 w hsz hr hr2 ((Ext.refl wb).st hS)) (fun y43 => ?_)
      refine WL.step ?_
      refine WL.callC (β := List Nat × Option Addr × Nat) (res := fun y => tv (replT [97] u t) y.2.1 y.2.2) (cs := fun y => [ownW y.1 (replT [97] u t) (tv (replT [97] u t) y.2.1 y.2.2)]) (Cs := []) (O' := []) F.fun18 (fun d h => by cases h; rfl) rfl (List.Perm.refl _) (by simp) (by simp) (fun w hS _ => by obtain ⟨G2, hG2⟩ := shr_reads hS (t := (replT [97] u t)) (F := y43.1) (v := tv (replT [97] u t) y43.2.1 y43.2.2) (by repeat (first | exact List.Mem.head _ | apply List.Mem.tail)) ((Ext.refl wb).st hS); exact CopiedW_c 1200 (by decide) (replT [97] u t) w G2 y43.2.1 y43.2.2 w hsr hG2 (Ext.refl w)) (fun y44 => ?_)
      refine WL.step ?_
      refine WL.alloc F.zero25 rfl (fun b9 => ?_)
      refine WL.step ?_
      refine WL.storeN F.agg25 rfl rfl rfl (by simp [Value.oneCell']) (by repeat (first | exact Upd.here | apply Upd.there)) (by repeat constructor) ?_
      refine WL.nil ?_
      refine WQ.then_normal ?_
      refine WC.seq ?_
      refine WC.region ?_
      refine WL.step ?_
      refine WL.loadW F.agg25 rfl rfl (by repeat (first | exact List.Mem.head _ | apply List.Mem.tail)) rfl ?_
      refine WL.step ?_
      refine WA.chunks (C' := [ownW y44.1 (replT [97] u t) (tv (replT [97] u t) y44.2.1 y44.2.2), ownW y36.1 (replT [97] u t) (tv (replT [97] u t) y36.2.1 y36.2.2), pt b7 [Value.int .u8 (replT [97] u t).op, .string (str (replT [97] u t).name), .slice y36.2.1 (replT [97] u t).kids.length y36.2.2] 25, pt b9 [Value.int .u8 (replT [97] u t).op, .string (str (replT [97] u t).name), .slice y44.2.1 (replT [97] u t).kids.length y44.2.2] 25, pt b2 [Value.int .u8 t.op, .string (str t.name), .slice a t.kids.length c] 25, pt b3 [Value.int .u8 u.op, .string (str u.name), .slice a2 u.kids.length c2] 25, pt b5 [Value.int .u8 t.op, .string (str t.name), .slice y30.2.1 t.kids.length y30.2.2] 25, pt b6 [Value.int .u8 u.op, .string (str u.name), .slice y32.2.1 u.kids.length y32.2.2] 25, ownW y30.1 t (tv t y30.2.1 y30.2.2), ownW y32.1 u (tv u y32.2.1 y32.2.2)]) (fun w hS => ((St.pick (St.pick (St.pick (St.pick (St.pick (St.pick (St.pick (St.pick (St.pick (St.pick hS (c := ownW y32.1 u (tv u y32.2.1 y32.2.2)) (by repeat (first | exact Rem.here | apply Rem.there))) (c := ownW y30.1 t (tv t y30.2.1 y30.2.2)) (by repeat (first | exact Rem.here | apply Rem.there))) (c := pt b6 [Value.int .u8 u.op, .string (str u.name), .slice y32.2.1 u.kids.length y32.2.2] 25) (by repeat (first | exact Rem.here | apply Rem.there))) (c := pt b5 [Value.int .u8 t.op, .string (str t.name), .slice y30.2.1 t.kids.length y30.2.2] 25) (by repeat (first | exact Rem.here | apply Rem.there))) (c := pt b3 [Value.int .u8 u.op, .string (str u.name), .slice a2 u.kids.length c2] 25) (by repeat (first | exact Rem.here | apply Rem.there))) (c := pt b2 [Value.int .u8 t.op, .string (str t.name), .slice a t.kids.length c] 25) (by repeat (first | exact Rem.here | apply Rem.there))) (c := pt b9 [Value.int .u8 (replT [97] u t).op, .string (str (replT [97] u t).name), .slice y44.2.1 (replT [97] u t).kids.length y44.2.2] 25) (by repeat (first | exact Rem.here | apply Rem.there))) (c := pt b7 [Value.int .u8 (replT [97] u t).op, .string (str (replT [97] u t).name), .slice y36.2.1 (replT [97] u t).kids.length y36.2.2] 25) (by repeat (first | exact Rem.here | apply Rem.there))) (c := ownW y36.1 (replT [97] u t) (tv (replT [97] u t) y36.2.1 y36.2.2)) (by repeat (first | exact Rem.here | apply Rem.there))) (c := ownW y44.1 (replT [97] u t) (tv (replT [97] u t) y44.2.1 y44.2.2)) (by repeat (first | exact Rem.here | apply Rem.there)))).sublist (List.Sublist.cons_cons _ (List.Sublist.cons_cons _ (List.Sublist.cons_cons _ (List.Sublist.cons_cons _ (List.Sublist.cons_cons _ (List.Sublist.cons_cons _ (List.Sublist.cons_cons _ (List.Sublist.cons_cons _ (List.Sublist.cons_cons _ (List.Sublist.cons_cons _ (List.nil_sublist _)))))))))))) ?_
      refine WL.callC (β := List Nat) (res := fun _ => .tuple #[]) (cs := fun x => [ownW x (spT (replT [97] u t)) (tv (spT (replT [97] u t)) y44.2.1 y44.2.2)]) (Cs := [ownW y44.1 (replT [97] u t) (tv (replT [97] u t) y44.2.1 y44.2.2)]) (O' := y44.1) F.fun43 (fun d h => by cases h; rfl) rfl (List.Perm.refl _) (fun c hc k hk => by rw [List.mem_singleton] at hc; subst hc; exact hk) (fun k hk => ⟨_, List.mem_singleton.2 rfl, hk⟩) (fun w hS hS2 => Spo_c (replT [97] u t) y44.1 y44.2.1 y44.2.2 w _ hsr hnm hS2) (fun x46 => ?_)
      refine WL.nil ?_
      refine WQ.then_normal ?_
      refine WC.seq ?_
      refine WC.region ?_
      refine WL.step ?_
      refine WL.loadW F.agg25 rfl rfl (by repeat (first | exact List.Mem.head _ | apply List.Mem.tail)) rfl ?_
      refine WL.step ?_
      refine WA.chunks (C' := [ownW y36.1 (replT [97] u t) (tv (replT [97] u t) y36.2.1 y36.2.2), ownW x46 (spT (replT [97] u t)) (tv (spT (replT [97] u t)) y44.2.1 y44.2.2), pt b7 [Value.int .u8 (replT [97] u t).op, .string (str (replT [97] u t).name), .slice y36.2.1 (replT [97] u t).kids.length y36.2.2] 25, pt b9 [Value.int .u8 (replT [97] u t).op, .string (str (replT [97] u t).name), .slice y44.2.1 (replT [97] u t).kids.length y44.2.2] 25, pt b2 [Value.int .u8 t.op, .string (str t.name), .slice a t.kids.length c] 25, pt b3 [Value.int .u8 u.op, .string (str u.name), .slice a2 u.kids.length c2] 25, pt b5 [Value.int .u8 t.op, .string (str t.name), .slice y30.2.1 t.kids.length y30.2.2] 25, pt b6 [Value.int .u8 u.op, .string (str u.name), .slice y32.2.1 u.kids.length y32.2.2] 25, ownW y30.1 t (tv t y30.2.1 y30.2.2), ownW y32.1 u (tv u y32.2.1 y32.2.2)]) (fun w hS => ((St.pick (St.pick (St.pick (St.pick (St.pick (St.pick (St.pick (St.pick (St.pick (St.pick hS (c := ownW y32.1 u (tv u y32.2.1 y32.2.2)) (by repeat (first | exact Rem.here | apply Rem.there))) (c := ownW y30.1 t (tv t y30.2.1 y30.2.2)) (by repeat (first | exact Rem.here | apply Rem.there))) (c := pt b6 [Value.int .u8 u.op, .string (str u.name), .slice y32.2.1 u.kids.length y32.2.2] 25) (by repeat (first | exact Rem.here | apply Rem.there))) (c := pt b5 [Value.int .u8 t.op, .string (str t.name), .slice y30.2.1 t.kids.length y30.2.2] 25) (by repeat (first | exact Rem.here | apply Rem.there))) (c := pt b3 [Value.int .u8 u.op, .string (str u.name), .slice a2 u.kids.length c2] 25) (by repeat (first | exact Rem.here | apply Rem.there))) (c := pt b2 [Value.int .u8 t.op, .string (str t.name), .slice a t.kids.length c] 25) (by repeat (first | exact Rem.here | apply Rem.there))) (c := pt b9 [Value.int .u8 (replT [97] u t).op, .string (str (replT [97] u t).name), .slice y44.2.1 (replT [97] u t).kids.length y44.2.2] 25) (by repeat (first | exact Rem.here | apply Rem.there))) (c := pt b7 [Value.int .u8 (replT [97] u t).op, .string (str (replT [97] u t).name), .slice y36.2.1 (replT [97] u t).kids.length y36.2.2] 25) (by repeat (first | exact Rem.here | apply Rem.there))) (c := ownW x46 (spT (replT [97] u t)) (tv (spT (replT [97] u t)) y44.2.1 y44.2.2)) (by repeat (first | exact Rem.here | apply Rem.there))) (c := ownW y36.1 (replT [97] u t) (tv (replT [97] u t) y36.2.1 y36.2.2)) (by repeat (first | exact Rem.here | apply Rem.there)))).sublist (List.Sublist.cons_cons _ (List.Sublist.cons_cons _ (List.Sublist.cons_cons _ (List.Sublist.cons_cons _ (List.Sublist.cons_cons _ (List.Sublist.cons_cons _ (List.Sublist.cons_cons _ (List.Sublist.cons_cons _ (List.Sublist.cons_cons _ (List.Sublist.cons_cons _ (List.nil_sublist _)))))))))))) ?_
      refine WL.callC (β := List Nat) (res := fun _ => .tuple #[]) (cs := fun x => [ownW x (spT (replT [97] u t)) (tv (spT (replT [97] u t)) y36.2.1 y36.2.2)]) (Cs := [ownW y36.1 (replT [97] u t) (tv (replT [97] u t) y36.2.1 y36.2.2)]) (O' := y36.1) F.fun43 (fun d h => by cases h; rfl) rfl (List.Perm.refl _) (fun c hc k hk => by rw [List.mem_singleton] at hc; subst hc; exact hk) (fun k hk => ⟨_, List.mem_singleton.2 rfl, hk⟩) (fun w hS hS2 => Spo_c (replT [97] u t) y36.1 y36.2.1 y36.2.2 w _ hsr hnm hS2) (fun x48 => ?_)
      refine WL.nil ?_
      refine WQ.then_normal ?_
      refine WC.seq ?_
      refine WC.region ?_
      refine WL.step ?_
      refine WL.loadW F.agg25 rfl rfl (by repeat (first | exact List.Mem.head _ | apply List.Mem.tail)) rfl ?_
      refine WL.step ?_
      refine WL.loadW F.agg25 rfl rfl (by repeat (first | exact List.Mem.head _ | apply List.Mem.tail)) rfl ?_
      refine WL.step ?_
      refine WL.callV (v := .bool true) F.fun16 rfl rfl (fun w hS => by have h9 := rSame_c 1200 (by decide) (spT (replT [97] u t)) (spT (replT [97] u t)) w x48 x46 y36.2.1 y44.2.1 y36.2.2 y44.2.2 w (by rw [spT_len]; exact hsr) (rdW_T (hS.ok (ownW x48 (spT (replT [97] u t)) (tv (spT (replT [97] u t)) y36.2.1 y36.2.2)) (by repeat (first | exact List.Mem.head _ | apply List.Mem.tail))).2) (rdW_T (hS.ok (ownW x46 (spT (replT [97] u t)) (tv (spT (replT [97] u t)) y44.2.1 y44.2.2)) (by repeat (first | exact List.Mem.head _ | apply List.Mem.tail))).2) (Ext.refl w); rw [Fm.sameT_refl, spT_val, spT_val] at h9; exact h9) ?_
      refine WL.step ?_
      refine WL.not rfl rfl ?_
      refine WL.nil ?_
      refine WQ.then_normal ?_
      refine WC.cond rfl (fun h52 => ?_) (fun h52 => ?_)
      · skip
        simp at h52
      · skip
        refine WC.skip ?_
        refine WQ.then_normal ?_
        refine WC.seq ?_
        refine WC.region ?_
        refine WL.step ?_
        refine WL.loadW F.agg25 rfl rfl (by repeat (first | exact List.Mem.head _ | apply List.Mem.tail)) rfl ?_
        refine WL.step ?_
        refine WL.loadW F.agg25 rfl rfl (by repeat (first | exact List.Mem.head _ | apply List.Mem.tail)) rfl ?_
        refine WL.step ?_
        refine WL.callV (v := .bool true) F.fun16 rfl rfl (fun w hS => by have h9 := rSame_c 1200 (by decide) t t w y30.1 G _ _ _ _ w hsz (rdW_T (hS.ok (ownW y30.1 t (tv t y30.2.1 y30.2.2)) (by repeat (first | exact List.Mem.head _ | apply List.Mem.tail))).2) (((Ext.refl wb).st hS).tree hr) (Ext.refl w); rw [Fm.sameT_refl] at h9; exact h9) ?_
        refine WL.step ?_
        refine WL.move rfl rfl ?_
        refine WA.splitB (i := 56) rfl (fun g56 => ?_) (fun g56 => ?_)
        · skip
          refine WL.step (WL.guardT rfl rfl rfl ?_)
          refine WL.loadW F.agg25 rfl rfl (by repeat (first | exact List.Mem.head _ | apply List.Mem.tail)) rfl ?_
          refine WL.step (WL.guardT rfl rfl rfl ?_)
          refine WL.loadW F.agg25 rfl rfl (by repeat (first | exact List.Mem.head _ | apply List.Mem.tail)) rfl ?_
          refine WL.step (WL.guardT rfl rfl rfl ?_)
          refine WL.callV (v := .bool true) F.fun16 rfl rfl (fun w hS => by have h9 := rSame_c 1200 (by decide) u u w y32.1 H _ _ _ _ w hsz2 (rdW_T (hS.ok (ownW y32.1 u (tv u y32.2.1 y32.2.2)) (by repeat (first | exact List.Mem.head _ | apply List.Mem.tail))).2) (((Ext.refl wb).st hS).tree hr2) (Ext.refl w); rw [Fm.sameT_refl] at h9; exact h9) ?_
          refine WL.step ?_
          refine WL.pickT rfl rfl rfl ?_
          refine WL.step ?_
          refine WL.move rfl rfl ?_
          refine WA.splitB (i := 61) rfl (fun g61 => ?_) (fun g61 => ?_)
          · skip
            refine WL.step (WL.guardT rfl rfl rfl ?_)
            refine WL.callV F.fun13 rfl rfl (fun w _ => wakes_c w) ?_
            refine WL.step ?_
            refine WL.pickT rfl rfl rfl ?_
            refine WL.step ?_
            refine WL.assign rfl rfl ?_
            refine WL.nil ?_
            refine WQ.then_normal ?_
            refine WC.ret ?_
            exact WQ.ret (rs := [.tmp 4]) rfl (.tmp rfl .nil) (fun w hS => ⟨by first | rfl | simp [tup], hS.sublist (List.nil_sublist _)⟩)
          · skip
            exact absurd g61 (by simp)
        · skip
          exact absurd g56 (by simp)
    · skip
      refine WC.skip ?_
      refine WQ.then_normal ?_
      refine WC.seq ?_
      refine WC.region ?_
      refine WL.step ?_
      refine WL.loadW F.agg25 rfl rfl (by repeat (first | exact List.Mem.head _ | apply List.Mem.tail)) rfl ?_
      refine WL.step ?_
      refine WL.loadW F.agg25 rfl rfl (by repeat (first | exact List.Mem.head _ | apply List.Mem.tail)) rfl ?_
      refine WL.step ?_
      refine WL.callV (v := .bool true) F.fun16 rfl rfl (fun w hS => by have h9 := rSame_c 1200 (by decide) t t w y30.1 G _ _ _ _ w hsz (rdW_T (hS.ok (ownW y30.1 t (tv t y30.2.1 y30.2.2)) (by repeat (first | exact List.Mem.head _ | apply List.Mem.tail))).2) (((Ext.refl wb).st hS).tree hr) (Ext.refl w); rw [Fm.sameT_refl] at h9; exact h9) ?_
      refine WL.step ?_
      refine WL.move rfl rfl ?_
      refine WA.splitB (i := 56) rfl (fun g56 => ?_) (fun g56 => ?_)
      · skip
        refine WL.step (WL.guardT rfl rfl rfl ?_)
        refine WL.loadW F.agg25 rfl rfl (by repeat (first | exact List.Mem.head _ | apply List.Mem.tail)) rfl ?_
        refine WL.step (WL.guardT rfl rfl rfl ?_)
        refine WL.loadW F.agg25 rfl rfl (by repeat (first | exact List.Mem.head _ | apply List.Mem.tail)) rfl ?_
        refine WL.step (WL.guardT rfl rfl rfl ?_)
        refine WL.callV (v := .bool true) F.fun16 rfl rfl (fun w hS => by have h9 := rSame_c 1200 (by decide) u u w y32.1 H _ _ _ _ w hsz2 (rdW_T (hS.ok (ownW y32.1 u (tv u y32.2.1 y32.2.2)) (by repeat (first | exact List.Mem.head _ | apply List.Mem.tail))).2) (((Ext.refl wb).st hS).tree hr2) (Ext.refl w); rw [Fm.sameT_refl] at h9; exact h9) ?_
        refine WL.step ?_
        refine WL.pickT rfl rfl rfl ?_
        refine WL.step ?_
        refine WL.move rfl rfl ?_
        refine WA.splitB (i := 61) rfl (fun g61 => ?_) (fun g61 => ?_)
        · skip
          refine WL.step (WL.guardT rfl rfl rfl ?_)
          refine WL.callV F.fun13 rfl rfl (fun w _ => wakes_c w) ?_
          refine WL.step ?_
          refine WL.pickT rfl rfl rfl ?_
          refine WL.step ?_
          refine WL.assign rfl rfl ?_
          refine WL.nil ?_
          refine WQ.then_normal ?_
          refine WC.ret ?_
          exact WQ.ret (rs := [.tmp 4]) rfl (.tmp rfl .nil) (fun w hS => ⟨by first | rfl | simp [tup], hS.sublist (List.nil_sublist _)⟩)
        · skip
          exact absurd g61 (by simp)
      · skip
        exact absurd g56 (by simp)

end Go.Proofs.Ytbippghgkbapnaa
