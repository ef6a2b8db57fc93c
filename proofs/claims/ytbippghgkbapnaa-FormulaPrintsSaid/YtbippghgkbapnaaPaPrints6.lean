import Derived.Test.YtbippghgkbapnaaPaPrints5
set_option linter.unusedSimpArgs false
set_option linter.unusedVariables false
namespace Go.Proofs.Ytbippghgkbapnaa
open Go Go.Eng Go.Proofs
theorem line_c (op : Int) (w : World) : Pure Try.prog 59 [.int .u8 op] w (.int .i64 (Fm.lineOf op)) := by
  refine enter Try.func59 rfl Try.ntmps59 rfl (St.init _) ?_
  refine WC.seq ?_
  refine WC.region ?_
  refine WL.step ?_
  refine WL.assign rfl rfl ?_
  refine WL.nil ?_
  refine WQ.then_normal ?_
  refine WC.seq ?_
  refine WC.seq ?_
  refine WC.region ?_
  refine WL.step ?_
  refine WL.move rfl rfl ?_
  refine WL.nil ?_
  refine WQ.then_normal ?_
  refine WC.block ?_
  refine WC.seq ?_
  refine WC.region ?_
  refine WL.step ?_
  refine WL.eqI rfl rfl rfl ?_
  refine WL.step ?_
  refine WL.assign rfl rfl ?_
  refine WL.nil ?_
  refine WQ.then_normal ?_
  refine WC.cond rfl (fun h4 => ?_) (fun h4 => ?_)
  · skip
    have e : op = 5 := by simpa using h4
    subst e
    refine WC.seq ?_
    refine WC.region ?_
    refine WL.step ?_
    refine WL.assign rfl rfl ?_
    refine WL.nil ?_
    refine WQ.then_normal ?_
    refine WC.ret ?_
    refine WQ.block_ret ?_
    refine WQ.then_ret ?_
    refine WQ.ret (rs := [.tmp 2]) rfl (.tmp rfl .nil) (fun w hS => ⟨?_, hS⟩)
    first | rfl | (unfold Fm.lineOf; rw [if_neg (by assumption), if_neg (by assumption), if_neg (by assumption), if_neg (by assumption), if_neg (by assumption), if_neg (by assumption)]; rfl)
  · skip
    have e5 : op ≠ 5 := by simpa using h4
    refine WC.seq ?_
    refine WC.region ?_
    refine WL.step ?_
    refine WL.eqI rfl rfl rfl ?_
    refine WL.step ?_
    refine WL.assign rfl rfl ?_
    refine WL.nil ?_
    refine WQ.then_normal ?_
    refine WC.cond rfl (fun h6 => ?_) (fun h6 => ?_)
    · skip
      have e : op = 7 := by simpa using h6
      subst e
      refine WC.seq ?_
      refine WC.region ?_
      refine WL.step ?_
      refine WL.assign rfl rfl ?_
      refine WL.nil ?_
      refine WQ.then_normal ?_
      refine WC.ret ?_
      refine WQ.block_ret ?_
      refine WQ.then_ret ?_
      refine WQ.ret (rs := [.tmp 2]) rfl (.tmp rfl .nil) (fun w hS => ⟨?_, hS⟩)
      first | rfl | (unfold Fm.lineOf; rw [if_neg (by assumption), if_neg (by assumption), if_neg (by assumption), if_neg (by assumption), if_neg (by assumption), if_neg (by assumption)]; rfl)
    · skip
      have e7 : op ≠ 7 := by simpa using h6
      refine WC.seq ?_
      refine WC.region ?_
      refine WL.step ?_
      refine WL.eqI rfl rfl rfl ?_
      refine WL.step ?_
      refine WL.assign rfl rfl ?_
      refine WL.nil ?_
      refine WQ.then_normal ?_
      refine WC.cond rfl (fun h8 => ?_) (fun h8 => ?_)
      · skip
        have e : op = 6 := by simpa using h8
        subst e
        refine WC.seq ?_
        refine WC.region ?_
        refine WL.step ?_
        refine WL.assign rfl rfl ?_
        refine WL.nil ?_
        refine WQ.then_normal ?_
        refine WC.ret ?_
        refine WQ.block_ret ?_
        refine WQ.then_ret ?_
        refine WQ.ret (rs := [.tmp 2]) rfl (.tmp rfl .nil) (fun w hS => ⟨?_, hS⟩)
        first | rfl | (unfold Fm.lineOf; rw [if_neg (by assumption), if_neg (by assumption), if_neg (by assumption), if_neg (by assumption), if_neg (by assumption), if_neg (by assumption)]; rfl)
      · skip
        have e6 : op ≠ 6 := by simpa using h8
        refine WC.seq ?_
        refine WC.region ?_
        refine WL.step ?_
        refine WL.eqI rfl rfl rfl ?_
        refine WL.step ?_
        refine WL.assign rfl rfl ?_
        refine WL.nil ?_
        refine WQ.then_normal ?_
        refine WC.cond rfl (fun h10 => ?_) (fun h10 => ?_)
        · skip
          have e : op = 8 := by simpa using h10
          subst e
          refine WC.seq ?_
          refine WC.region ?_
          refine WL.step ?_
          refine WL.assign rfl rfl ?_
          refine WL.nil ?_
          refine WQ.then_normal ?_
          refine WC.ret ?_
          refine WQ.block_ret ?_
          refine WQ.then_ret ?_
          refine WQ.ret (rs := [.tmp 2]) rfl (.tmp rfl .nil) (fun w hS => ⟨?_, hS⟩)
          first | rfl | (unfold Fm.lineOf; rw [if_neg (by assumption), if_neg (by assumption), if_neg (by assumption), if_neg (by assumption), if_neg (by assumption), if_neg (by assumption)]; rfl)
        · skip
          have e8 : op ≠ 8 := by simpa using h10
          refine WC.seq ?_
          refine WC.region ?_
          refine WL.step ?_
          refine WL.eqI rfl rfl rfl ?_
          refine WL.step ?_
          refine WL.assign rfl rfl ?_
          refine WL.nil ?_
          refine WQ.then_normal ?_
          refine WC.cond rfl (fun h12 => ?_) (fun h12 => ?_)
          · skip
            have e : op = 9 := by simpa using h12
            subst e
            refine WC.seq ?_
            refine WC.region ?_
            refine WL.step ?_
            refine WL.assign rfl rfl ?_
            refine WL.nil ?_
            refine WQ.then_normal ?_
            refine WC.ret ?_
            refine WQ.block_ret ?_
            refine WQ.then_ret ?_
            refine WQ.ret (rs := [.tmp 2]) rfl (.tmp rfl .nil) (fun w hS => ⟨?_, hS⟩)
            first | rfl | (unfold Fm.lineOf; rw [if_neg (by assumption), if_neg (by assumption), if_neg (by assumption), if_neg (by assumption), if_neg (by assumption), if_neg (by assumption)]; rfl)
          · skip
            have e9 : op ≠ 9 := by simpa using h12
            refine WC.seq ?_
            refine WC.region ?_
            refine WL.step ?_
            refine WL.eqI rfl rfl rfl ?_
            refine WL.step ?_
            refine WL.assign rfl rfl ?_
            refine WL.nil ?_
            refine WQ.then_normal ?_
            refine WC.cond rfl (fun h14 => ?_) (fun h14 => ?_)
            · skip
              have e : op = 10 := by simpa using h14
              subst e
              refine WC.seq ?_
              refine WC.region ?_
              refine WL.step ?_
              refine WL.assign rfl rfl ?_
              refine WL.nil ?_
              refine WQ.then_normal ?_
              refine WC.ret ?_
              refine WQ.block_ret ?_
              refine WQ.then_ret ?_
              refine WQ.ret (rs := [.tmp 2]) rfl (.tmp rfl .nil) (fun w hS => ⟨?_, hS⟩)
              first | rfl | (unfold Fm.lineOf; rw [if_neg (by assumption), if_neg (by assumption), if_neg (by assumption), if_neg (by assumption), if_neg (by assumption), if_neg (by assumption)]; rfl)
            · skip
              have e10 : op ≠ 10 := by simpa using h14
              refine WC.skip ?_
              refine WQ.block_normal ?_
              refine WQ.then_normal ?_
              refine WC.seq ?_
              refine WC.region ?_
              refine WL.step ?_
              refine WL.assign rfl rfl ?_
              refine WL.nil ?_
              refine WQ.then_normal ?_
              refine WC.ret ?_
              refine WQ.ret (rs := [.tmp 2]) rfl (.tmp rfl .nil) (fun w hS => ⟨?_, hS⟩)
              first | rfl | (unfold Fm.lineOf; rw [if_neg (by assumption), if_neg (by assumption), if_neg (by assumption), if_neg (by assumption), if_neg (by assumption), if_neg (by assumption)]; rfl)

theorem rsign_c (op i : Int) (w : World) : Pure Try.prog 60 [.int .u8 op, .int .i64 i] w (.string (str (Fm.signR op i))) := by
  refine enter Try.func60 rfl Try.ntmps60 rfl (St.init _) ?_
  refine WC.seq ?_
  refine WC.region ?_
  refine WL.step ?_
  refine WL.assign rfl rfl ?_
  refine WL.nil ?_
  refine WQ.then_normal ?_
  refine WC.seq ?_
  refine WC.seq ?_
  refine WC.region ?_
  refine WL.step ?_
  refine WL.move rfl rfl ?_
  refine WL.nil ?_
  refine WQ.then_normal ?_
  refine WC.block ?_
  refine WC.seq ?_
  refine WC.region ?_
  refine WL.step ?_
  refine WL.eqI rfl rfl rfl ?_
  refine WL.step ?_
  refine WL.assign rfl rfl ?_
  refine WL.nil ?_
  refine WQ.then_normal ?_
  refine WC.cond rfl (fun h6 => ?_) (fun h6 => ?_)
  · skip
    have e : op = 5 := by simpa using h6
    subst e
    refine WC.seq ?_
    refine WC.region ?_
    refine WL.step ?_
    refine WL.assign rfl rfl ?_
    refine WL.nil ?_
    refine WQ.then_normal ?_
    refine WC.ret ?_
    refine WQ.block_ret ?_
    refine WQ.then_ret ?_
    refine WQ.ret (rs := [.tmp 4]) rfl (.tmp rfl .nil) (fun w hS => ⟨?_, hS⟩)
    first | rfl | (unfold Fm.signR; rw [if_neg (by assumption), if_neg (by assumption), if_neg (by assumption), if_neg (by assumption), if_neg (by assumption), if_pos (by assumption)]; rfl) | (unfold Fm.signR; rw [if_neg (by assumption), if_neg (by assumption), if_neg (by assumption), if_neg (by assumption), if_neg (by assumption), if_neg (by assumption)]; rfl)
  · skip
    have e5 : op ≠ 5 := by simpa using h6
    refine WC.seq ?_
    refine WC.region ?_
    refine WL.step ?_
    refine WL.eqI rfl rfl rfl ?_
    refine WL.step ?_
    refine WL.assign rfl rfl ?_
    refine WL.nil ?_
    refine WQ.then_normal ?_
    refine WC.cond rfl (fun h8 => ?_) (fun h8 => ?_)
    · skip
      have e : op = 7 := by simpa using h8
      subst e
      refine WC.seq ?_
      refine WC.region ?_
      refine WL.step ?_
      refine WL.assign rfl rfl ?_
      refine WL.nil ?_
      refine WQ.then_normal ?_
      refine WC.ret ?_
      refine WQ.block_ret ?_
      refine WQ.then_ret ?_
      refine WQ.ret (rs := [.tmp 4]) rfl (.tmp rfl .nil) (fun w hS => ⟨?_, hS⟩)
      first | rfl | (unfold Fm.signR; rw [if_neg (by assumption), if_neg (by assumption), if_neg (by assumption), if_neg (by assumption), if_neg (by assumption), if_pos (by assumption)]; rfl) | (unfold Fm.signR; rw [if_neg (by assumption), if_neg (by assumption), if_neg (by assumption), if_neg (by assumption), if_neg (by assumption), if_neg (by assumption)]; rfl)
    · skip
      have e7 : op ≠ 7 := by simpa using h8
      refine WC.seq ?_
      refine WC.region ?_
      refine WL.step ?_
      refine WL.eqI rfl rfl rfl ?_
      refine WL.step ?_
      refine WL.assign rfl rfl ?_
      refine WL.nil ?_
      refine WQ.then_normal ?_
      refine WC.cond rfl (fun h10 => ?_) (fun h10 => ?_)
      · skip
        have e : op = 6 := by simpa using h10
        subst e
        refine WC.seq ?_
        refine WC.region ?_
        refine WL.step ?_
        refine WL.assign rfl rfl ?_
        refine WL.nil ?_
        refine WQ.then_normal ?_
        refine WC.ret ?_
        refine WQ.block_ret ?_
        refine WQ.then_ret ?_
        refine WQ.ret (rs := [.tmp 4]) rfl (.tmp rfl .nil) (fun w hS => ⟨?_, hS⟩)
        first | rfl | (unfold Fm.signR; rw [if_neg (by assumption), if_neg (by assumption), if_neg (by assumption), if_neg (by assumption), if_neg (by assumption), if_pos (by assumption)]; rfl) | (unfold Fm.signR; rw [if_neg (by assumption), if_neg (by assumption), if_neg (by assumption), if_neg (by assumption), if_neg (by assumption), if_neg (by assumption)]; rfl)
      · skip
        have e6 : op ≠ 6 := by simpa using h10
        refine WC.seq ?_
        refine WC.region ?_
        refine WL.step ?_
        refine WL.eqI rfl rfl rfl ?_
        refine WL.step ?_
        refine WL.assign rfl rfl ?_
        refine WL.nil ?_
        refine WQ.then_normal ?_
        refine WC.cond rfl (fun h12 => ?_) (fun h12 => ?_)
        · skip
          have e : op = 8 := by simpa using h12
          subst e
          refine WC.seq ?_
          refine WC.region ?_
          refine WL.step ?_
          refine WL.assign rfl rfl ?_
          refine WL.nil ?_
          refine WQ.then_normal ?_
          refine WC.ret ?_
          refine WQ.block_ret ?_
          refine WQ.then_ret ?_
          refine WQ.ret (rs := [.tmp 4]) rfl (.tmp rfl .nil) (fun w hS => ⟨?_, hS⟩)
          first | rfl | (unfold Fm.signR; rw [if_neg (by assumption), if_neg (by assumption), if_neg (by assumption), if_neg (by assumption), if_neg (by assumption), if_pos (by assumption)]; rfl) | (unfold Fm.signR; rw [if_neg (by assumption), if_neg (by assumption), if_neg (by assumption), if_neg (by assumption), if_neg (by assumption), if_neg (by assumption)]; rfl)
        · skip
          have e8 : op ≠ 8 := by simpa using h12
          refine WC.seq ?_
          refine WC.region ?_
          refine WL.step ?_
          refine WL.eqI rfl rfl rfl ?_
          refine WL.step ?_
          refine WL.assign rfl rfl ?_
          refine WL.nil ?_
          refine WQ.then_normal ?_
          refine WC.cond rfl (fun h14 => ?_) (fun h14 => ?_)
          · skip
            have e : op = 9 := by simpa using h14
            subst e
            refine WC.seq ?_
            refine WC.region ?_
            refine WL.step ?_
            refine WL.assign rfl rfl ?_
            refine WL.nil ?_
            refine WQ.then_normal ?_
            refine WC.ret ?_
            refine WQ.block_ret ?_
            refine WQ.then_ret ?_
            refine WQ.ret (rs := [.tmp 4]) rfl (.tmp rfl .nil) (fun w hS => ⟨?_, hS⟩)
            first | rfl | (unfold Fm.signR; rw [if_neg (by assumption), if_neg (by assumption), if_neg (by assumption), if_neg (by assumption), if_neg (by assumption), if_pos (by assumption)]; rfl) | (unfold Fm.signR; rw [if_neg (by assumption), if_neg (by assumption), if_neg (by assumption), if_neg (by assumption), if_neg (by assumption), if_neg (by assumption)]; rfl)
          · skip
            have e9 : op ≠ 9 := by simpa using h14
            refine WC.skip ?_
            refine WQ.block_normal ?_
            refine WQ.then_normal ?_
            refine WC.seq ?_
            refine WC.seq ?_
            refine WC.region ?_
            refine WL.step ?_
            refine WL.move rfl rfl ?_
            refine WL.step ?_
            refine WL.eqI rfl rfl rfl ?_
            refine WL.nil ?_
            refine WQ.then_normal ?_
            refine WC.cond rfl (fun h17 => ?_) (fun h17 => ?_)
            · skip
              have hi1 : i = 1 := by simpa using h17
              refine WC.seq ?_
              refine WC.region ?_
              refine WL.step ?_
              refine WL.assign rfl rfl ?_
              refine WL.nil ?_
              refine WQ.then_normal ?_
              refine WC.ret ?_
              refine WQ.then_ret ?_
              refine WQ.ret (rs := [.tmp 4]) rfl (.tmp rfl .nil) (fun w hS => ⟨?_, hS⟩)
              first | rfl | (unfold Fm.signR; rw [if_neg (by assumption), if_neg (by assumption), if_neg (by assumption), if_neg (by assumption), if_neg (by assumption), if_pos (by assumption)]; rfl) | (unfold Fm.signR; rw [if_neg (by assumption), if_neg (by assumption), if_neg (by assumption), if_neg (by assumption), if_neg (by assumption), if_neg (by assumption)]; rfl)
            · skip
              have hi1 : i ≠ 1 := by simpa using h17
              refine WC.skip ?_
              refine WQ.then_normal ?_
              refine WC.seq ?_
              refine WC.region ?_
              refine WL.step ?_
              refine WL.assign rfl rfl ?_
              refine WL.nil ?_
              refine WQ.then_normal ?_
              refine WC.ret ?_
              refine WQ.ret (rs := [.tmp 4]) rfl (.tmp rfl .nil) (fun w hS => ⟨?_, hS⟩)
              first | rfl | (unfold Fm.signR; rw [if_neg (by assumption), if_neg (by assumption), if_neg (by assumption), if_neg (by assumption), if_neg (by assumption), if_pos (by assumption)]; rfl) | (unfold Fm.signR; rw [if_neg (by assumption), if_neg (by assumption), if_neg (by assumption), if_neg (by assumption), if_neg (by assumption), if_neg (by assumption)]; rfl)

theorem line_b (op : Int) : 1 ≤ Fm.lineOf op ∧ Fm.lineOf op ≤ 7 := by
  unfold Fm.lineOf
  (repeat' split) <;> omega
theorem signR_len (op i : Int) : (Fm.signR op i).length ≤ 5 := by
  unfold Fm.signR
  (repeat' split) <;> simp
def TxC (n : Nat) : Prop := ∀ (t : Tree) (wb : World) (G : List Nat) (a : Option Addr) (c : Nat) (w : World), (Fm.rowT t).length ≤ n → (Fm.textT t).length ≤ 1099511627776 → rdT wb t G (tv t a c) → Ext wb w → Pure Try.prog 21 [tv t a c] w (.string (str (Fm.textT t)))

theorem Text_step (n : Nat) (hn : n ≤ 1099511627776) (hrec : TxC n) : TxC (n + 1) := by
  intro t wb G a c w hsz htx hr hE
  refine enter Try.func21 rfl Try.ntmps21 rfl (St.init _) ?_
  refine WC.seq ?_
  refine WC.region ?_
  refine WL.step ?_
  refine WL.boxN rfl rfl (fun b1 => ?_)
  refine WL.step ?_
  refine WL.assign rfl rfl ?_
  refine WL.nil ?_
  refine WQ.then_normal ?_
  refine WC.seq ?_
  refine WC.seq ?_
  refine WC.region ?_
  refine WL.step ?_
  refine WL.fieldAddr0 F.fld25_0 rfl rfl ?_
  refine WL.step ?_
  refine WL.loadP F.one5 rfl rfl (by repeat (first | exact List.Mem.head _ | apply List.Mem.tail)) rfl ?_
  refine WL.nil ?_
  refine WQ.then_normal ?_
  refine WC.block ?_
  refine WC.seq ?_
  refine WC.region ?_
  refine WL.step ?_
  refine WL.eqI rfl rfl rfl ?_
  refine WL.step ?_
  refine WL.assign rfl rfl ?_
  refine WL.nil ?_
  refine WQ.then_normal ?_
  refine WC.cond rfl (fun h8 => ?_) (fun h8 => ?_)
  · skip
    have hop : t.op = 1 := by simpa using h8
    have hres : Fm.textT t = [48] := by rw [Fm.textT_mk, if_pos hop]
    refine WC.seq ?_
    refine WC.region ?_
    refine WL.step ?_
    refine WL.assign rfl rfl ?_
    refine WL.nil ?_
    refine WQ.then_normal ?_
    refine WC.ret ?_
    refine WQ.block_ret ?_
    refine WQ.then_ret ?_
    exact WQ.ret (rs := [.tmp 2]) rfl (.tmp rfl .nil) (fun w hS => ⟨by first | (rw [hres]; rfl) | rfl, hS.drop⟩)
  · skip
    have hop1 : t.op ≠ 1 := by simpa using h8
    refine WC.seq ?_
    refine WC.region ?_
    refine WL.step ?_
    refine WL.eqI rfl rfl rfl ?_
    refine WL.step ?_
    refine WL.assign rfl rfl ?_
    refine WL.nil ?_
    refine WQ.then_normal ?_
    refine WC.cond rfl (fun h10 => ?_) (fun h10 => ?_)
    · skip
      have hop : t.op = 2 := by simpa using h10
      have hres : Fm.textT t = [49] := by rw [Fm.textT_mk, if_neg hop1, if_pos hop]
      refine WC.seq ?_
      refine WC.region ?_
      refine WL.step ?_
      refine WL.assign rfl rfl ?_
      refine WL.nil ?_
      refine WQ.then_normal ?_
      refine WC.ret ?_
      refine WQ.block_ret ?_
      refine WQ.then_ret ?_
      exact WQ.ret (rs := [.tmp 2]) rfl (.tmp rfl .nil) (fun w hS => ⟨by first | (rw [hres]; rfl) | rfl, hS.drop⟩)
    · skip
      have hop2 : t.op ≠ 2 := by simpa using h10
      refine WC.seq ?_
      refine WC.region ?_
      refine WL.step ?_
      refine WL.eqI rfl rfl rfl ?_
      refine WL.step ?_
      refine WL.assign rfl rfl ?_
      refine WL.nil ?_
      refine WQ.then_normal ?_
      refine WC.cond rfl (fun h12 => ?_) (fun h12 => ?_)
      · skip
        have hop : t.op = 3 := by simpa using h12
        have hres : Fm.textT t = t.name := by rw [Fm.textT_mk, if_neg hop1, if_neg hop2, if_pos hop]
        refine WC.seq ?_
        refine WC.region ?_
        refine WL.step ?_
        refine WL.fieldAddr0 F.fld25_1 rfl rfl ?_
        refine WL.step ?_
        refine WL.loadP F.one9 rfl rfl (by repeat (first | exact List.Mem.head _ | apply List.Mem.tail)) rfl ?_
        refine WL.step ?_
        refine WL.assign rfl rfl ?_
        refine WL.nil ?_
        refine WQ.then_normal ?_
        refine WC.ret ?_
        refine WQ.block_ret ?_
        refine WQ.then_ret ?_
        exact WQ.ret (rs := [.tmp 2]) rfl (.tmp rfl .nil) (fun w hS => ⟨by first | (rw [hres]; rfl) | rfl, hS.drop⟩)
      · skip
        have hop3 : t.op ≠ 3 := by simpa using h12
        have hres : Fm.textT t = Fm.textL t.op 0 t.kids := by rw [Fm.textT_mk, if_neg hop1, if_neg hop2, if_neg hop3]
        have hlb := line_b t.op
        refine WC.skip ?_
        refine WQ.block_normal ?_
        refine WQ.then_normal ?_
        refine WC.seq ?_
        refine WC.region ?_
        refine WL.step ?_
        refine WL.assign rfl rfl ?_
        refine WL.nil ?_
        refine WQ.then_normal ?_
        refine WC.seq ?_
        refine WC.seq ?_
        refine WC.region ?_
        refine WL.step ?_
        refine WL.assign rfl rfl ?_
        refine WL.nil ?_
        refine WQ.then_normal ?_
        refine WC.block ?_
        refine WC.loop (α := Nat) (fun i => i ≤ t.kids.length) (fun i => [(1, pp b1), (3, .string (str (Fm.textTo t.op i t.kids))), (4, .int .i64 (i : Int))]) (fun _ => [pt b1 [Value.int .u8 t.op, .string (str t.name), .slice a t.kids.length c] 25]) (fun i => t.kids.length - i) (0) ?_ ?_ ?_ ?_
        · exact Nat.zero_le _
        · exact ⟨rfl, rfl, rfl, trivial⟩
        · rfl
        rintro i hi
        refine WC.seq ?_
        refine WC.seq ?_
        refine WC.region ?_
        refine WL.step ?_
        refine WL.move rfl rfl ?_
        refine WL.step ?_
        refine WL.fieldAddr0 F.fld25_2 rfl rfl ?_
        refine WL.step ?_
        refine WL.loadP F.one23 rfl rfl (by repeat (first | exact List.Mem.head _ | apply List.Mem.tail)) rfl ?_
        refine WL.step ?_
        refine WL.lenSl F.und23 rfl rfl ?_
        refine WL.step ?_
        refine WL.ltI rfl rfl rfl ?_
        refine WL.nil ?_
        refine WQ.then_normal ?_
        refine WC.cond rfl (fun h11 => ?_) (fun h11 => ?_)
        · skip
          have hlt : i < t.kids.length := by simpa using h11
          obtain ⟨k, hk⟩ : ∃ k, t.kids[i]? = some k := ⟨_, List.getElem?_eq_getElem hlt⟩
          obtain ⟨b, off, F1, a1, c1, rfl, hb, hF1, hrk, hck⟩ := rdT_at hr hk
          have hks := Fm.rowT_kid hk
          have hkl := Fm.kids_le t
          have hto := Fm.textTo_succ (op := t.op) hk
          have hle := Fm.textTo_le (op := t.op) (show i + 1 ≤ t.kids.length by omega)
          rw [← hres, hto, List.length_append, List.length_append] at hle
          have hkr := Fm.kidR_le (op := t.op) (i := (i : Int)) (k := k)
          have hsl := signR_len t.op (i : Int)
          refine WC.skip ?_
          refine WQ.then_normal ?_
          refine WC.seq ?_
          refine WC.block ?_
          refine WC.seq ?_
          refine WC.region ?_
          refine WL.step ?_
          refine WL.fieldAddr0 F.fld25_0 rfl rfl ?_
          refine WL.step ?_
          refine WL.loadP F.one5 rfl rfl (by repeat (first | exact List.Mem.head _ | apply List.Mem.tail)) rfl ?_
          refine WL.step ?_
          refine WL.callV F.fun59 rfl rfl (fun w _ => line_c _ w) ?_
          refine WL.step ?_
          refine WL.sub rfl rfl rfl ⟨by omega, by omega⟩ ?_
          refine WL.step ?_
          refine WL.assign rfl rfl ?_
          refine WL.nil ?_
          refine WQ.then_normal ?_
          refine WC.seq ?_
          refine WC.seq ?_
          refine WC.region ?_
          refine WL.step ?_
          refine WL.fieldAddr0 F.fld25_0 rfl rfl ?_
          refine WL.step ?_
          refine WL.loadP F.one5 rfl rfl (by repeat (first | exact List.Mem.head _ | apply List.Mem.tail)) rfl ?_
          refine WL.step ?_
          refine WL.eqI rfl rfl rfl ?_
          refine WL.nil ?_
          refine WQ.then_normal ?_
          refine WC.cutF [(1, pp b1), (3, .string (str ((Fm.textTo t.op i t.kids) ++ (if t.op = 4 then ([33] : List UInt8) else [])))), (4, .int .i64 (i : Int)), (5, .int .i64 (if t.op = 4 then (1 : Int) else Fm.lineOf t.op - 1))] (fun Q' hQ => ?_) ?_
          · skip
            refine WC.cond rfl (fun h29 => ?_) (fun h29 => ?_)
            · skip
              have h4 : t.op = 4 := by simpa using h29
              refine WC.seq ?_
              refine WC.region ?_
              refine WL.step ?_
              refine WL.assign rfl rfl ?_
              refine WL.nil ?_
              refine WQ.then_normal ?_
              refine WC.region ?_
              refine WL.step ?_
              refine WL.move rfl rfl ?_
              refine WL.step ?_
              refine WL.addS rfl rfl rfl (by first | omega | (simp only [List.length_append, List.length_cons, List.length_nil]; omega)) ?_
              refine WL.step ?_
              refine WL.assign rfl rfl ?_
              refine WL.nil ?_
              refine WQ.byCut hQ ⟨rfl, ?_, rfl, ?_, trivial⟩
              · exact congrArg (fun z => some (Value.string (str z))) (by first | (rw [if_pos h4]) | (rw [if_neg h4, List.append_nil]))
              · exact congrArg (fun z => some (Value.int .i64 z)) (by first | (rw [if_pos h4]) | (rw [if_neg h4]))
            · skip
              have h4 : ¬ t.op = 4 := by simpa using h29
              refine WC.skip ?_
              refine WQ.byCut hQ ⟨rfl, ?_, rfl, ?_, trivial⟩
              · exact congrArg (fun z => some (Value.string (str z))) (by first | (rw [if_pos h4]) | (rw [if_neg h4, List.append_nil]))
              · exact congrArg (fun z => some (Value.int .i64 z)) (by first | (rw [if_pos h4]) | (rw [if_neg h4]))
          refine WQ.then_normal ?_
          refine WC.seq ?_
          refine WC.seq ?_
          refine WC.cutF [(47, .bool (decide ((t.op = 8 ∧ (i : Int) = 1) ∨ (t.op = 10 ∧ 0 < (i : Int))))), (1, pp b1), (3, .string (str ((Fm.textTo t.op i t.kids) ++ (if t.op = 4 then ([33] : List UInt8) else [])))), (4, .int .i64 (i : Int)), (5, .int .i64 (if t.op = 4 then (1 : Int) else Fm.lineOf t.op - 1))] (fun Q' hQ => ?_) ?_
          · skip
            refine WC.region ?_
            refine WL.step ?_
            refine WL.fieldAddr0 F.fld25_0 rfl rfl ?_
            refine WL.step ?_
            refine WL.loadP F.one5 rfl rfl (by repeat (first | exact List.Mem.head _ | apply List.Mem.tail)) rfl ?_
            refine WL.step ?_
            refine WL.eqI rfl rfl rfl ?_
            refine WL.step ?_
            refine WL.move rfl rfl ?_
            refine WA.splitB (i := 35) rfl (fun g35 => ?_) (fun g35 => ?_)
            · skip
              refine WL.step (WL.guardT rfl rfl rfl ?_)
              refine WL.move rfl rfl ?_
              refine WL.step (WL.guardT rfl rfl rfl ?_)
              refine WL.eqI rfl rfl rfl ?_
              refine WL.step ?_
              refine WL.pickT rfl rfl rfl ?_
              refine WL.step ?_
              refine WL.move rfl rfl ?_
              refine WA.splitB (i := 39) rfl (fun g39 => ?_) (fun g39 => ?_)
              · skip
                refine WL.step (WL.guardF rfl rfl rfl rfl rfl rfl ?_)
                refine WL.step (WL.guardF rfl rfl rfl rfl rfl rfl ?_)
                refine WL.step (WL.guardF rfl rfl rfl rfl rfl rfl ?_)
                refine WL.step (WL.guardF rfl rfl rfl rfl rfl rfl ?_)
                refine WL.step (WL.guardU rfl rfl rfl rfl rfl ?_)
                refine WL.step (WL.guardU rfl rfl rfl rfl rfl ?_)
                refine WL.step (WL.guardF rfl rfl rfl rfl rfl rfl ?_)
                refine WL.step ?_
                refine WL.pickT rfl rfl rfl ?_
                refine WL.nil ?_
                refine WQ.byCut hQ (subF_bool ?_ ⟨rfl, rfl, rfl, rfl, trivial⟩ rfl)
                rw [Bool.eq_iff_iff]
                first | (simp_all; done) | (simp_all; omega)
              · skip
                refine WL.step (WL.guardT rfl rfl rfl ?_)
                refine WL.fieldAddr0 F.fld25_0 rfl rfl ?_
                refine WL.step (WL.guardT rfl rfl rfl ?_)
                refine WL.loadP F.one5 rfl rfl (by repeat (first | exact List.Mem.head _ | apply List.Mem.tail)) rfl ?_
                refine WL.step (WL.guardT rfl rfl rfl ?_)
                refine WL.eqI rfl rfl rfl ?_
                refine WL.step (WL.guardT rfl rfl rfl ?_)
                refine WL.move rfl rfl ?_
                refine WA.splitB (i := 43) rfl (fun g43 => ?_) (fun g43 => ?_)
                · skip
                  refine WL.step (WL.guardT rfl rfl rfl ?_)
                  refine WL.move rfl rfl ?_
                  refine WL.step (WL.guardT rfl rfl rfl ?_)
                  refine WL.gtI rfl rfl rfl ?_
                  refine WL.step (WL.guardT rfl rfl rfl ?_)
                  refine WL.pickT rfl rfl rfl ?_
                  refine WL.step ?_
                  refine WL.pickF rfl rfl rfl ?_
                  refine WL.nil ?_
                  refine WQ.byCut hQ (subF_bool ?_ ⟨rfl, rfl, rfl, rfl, trivial⟩ rfl)
                  rw [Bool.eq_iff_iff]
                  first | (simp_all; done) | (simp_all; omega)
                · skip
                  refine WL.step (WL.guardF rfl rfl rfl rfl rfl rfl ?_)
                  refine WL.step (WL.guardF rfl rfl rfl rfl rfl rfl ?_)
                  refine WL.step (WL.guardT rfl rfl rfl ?_)
                  refine WL.pickF rfl rfl rfl ?_
                  refine WL.step ?_
                  refine WL.pickF rfl rfl rfl ?_
                  refine WL.nil ?_
                  refine WQ.byCut hQ (subF_bool ?_ ⟨rfl, rfl, rfl, rfl, trivial⟩ rfl)
                  rw [Bool.eq_iff_iff]
                  first | (simp_all; done) | (simp_all; omega)
            · skip
              refine WL.step (WL.guardF rfl rfl rfl rfl rfl rfl ?_)
              refine WL.step (WL.guardF rfl rfl rfl rfl rfl rfl ?_)
              refine WL.step ?_
              refine WL.pickF rfl rfl rfl ?_
              refine WL.step ?_
              refine WL.move rfl rfl ?_
              refine WL.step (WL.guardT rfl rfl rfl ?_)
              refine WL.fieldAddr0 F.fld25_0 rfl rfl ?_
              refine WL.step (WL.guardT rfl rfl rfl ?_)
              refine WL.loadP F.one5 rfl rfl (by repeat (first | exact List.Mem.head _ | apply List.Mem.tail)) rfl ?_
              refine WL.step (WL.guardT rfl rfl rfl ?_)
              refine WL.eqI rfl rfl rfl ?_
              refine WL.step (WL.guardT rfl rfl rfl ?_)
              refine WL.move rfl rfl ?_
              refine WA.splitB (i := 43) rfl (fun g43 => ?_) (fun g43 => ?_)
              · skip
                refine WL.step (WL.guardT rfl rfl rfl ?_)
                refine WL.move rfl rfl ?_
                refine WL.step (WL.guardT rfl rfl rfl ?_)
                refine WL.gtI rfl rfl rfl ?_
                refine WL.step (WL.guardT rfl rfl rfl ?_)
                refine WL.pickT rfl rfl rfl ?_
                refine WL.step ?_
                refine WL.pickF rfl rfl rfl ?_
                refine WL.nil ?_
                refine WQ.byCut hQ (subF_bool ?_ ⟨rfl, rfl, rfl, rfl, trivial⟩ rfl)
                rw [Bool.eq_iff_iff]
                first | (simp_all; done) | (simp_all; omega)
              · skip
                refine WL.step (WL.guardF rfl rfl rfl rfl rfl rfl ?_)
                refine WL.step (WL.guardF rfl rfl rfl rfl rfl rfl ?_)
                refine WL.step (WL.guardT rfl rfl rfl ?_)
                refine WL.pickF rfl rfl rfl ?_
                refine WL.step ?_
                refine WL.pickF rfl rfl rfl ?_
                refine WL.nil ?_
                refine WQ.byCut hQ (subF_bool ?_ ⟨rfl, rfl, rfl, rfl, trivial⟩ rfl)
                rw [Bool.eq_iff_iff]
                first | (simp_all; done) | (simp_all; omega)
          refine WQ.then_normal ?_
          refine WC.cutF [(1, pp b1), (3, .string (str ((Fm.textTo t.op i t.kids) ++ (if t.op = 4 then ([33] : List UInt8) else [])))), (4, .int .i64 (i : Int)), (5, .int .i64 (Fm.mostOf t.op (i : Int)))] (fun Q' hQ => ?_) ?_
          · skip
            refine WC.cond rfl (fun h47 => ?_) (fun h47 => ?_)
            · skip
              have h47 := of_decide_eq_true h47
              refine WC.region ?_
              refine WL.step ?_
              refine WL.fieldAddr0 F.fld25_0 rfl rfl ?_
              refine WL.step ?_
              refine WL.loadP F.one5 rfl rfl (by repeat (first | exact List.Mem.head _ | apply List.Mem.tail)) rfl ?_
              refine WL.step ?_
              refine WL.callV F.fun59 rfl rfl (fun w _ => line_c _ w) ?_
              refine WL.step ?_
              refine WL.assign rfl rfl ?_
              refine WL.nil ?_
              refine WQ.byCut hQ ⟨rfl, rfl, rfl, ?_, trivial⟩
              exact congrArg (fun z => some (Value.int .i64 z)) (by unfold Fm.mostOf; first | (rw [if_pos h47]) | (rw [if_neg h47]))
            · skip
              have h47 := of_decide_eq_false h47
              refine WC.skip ?_
              refine WQ.byCut hQ ⟨rfl, rfl, rfl, ?_, trivial⟩
              exact congrArg (fun z => some (Value.int .i64 z)) (by unfold Fm.mostOf; first | (rw [if_pos h47]) | (rw [if_neg h47]))
          refine WQ.then_normal ?_
          refine WC.seq ?_
          refine WC.seq ?_
          refine WC.region ?_
          refine WL.step ?_
          refine WL.move rfl rfl ?_
          refine WL.step ?_
          refine WL.gtI rfl rfl rfl ?_
          refine WL.nil ?_
          refine WQ.then_normal ?_
          refine WC.cutF [(1, pp b1), (3, .string (str ((Fm.textTo t.op i t.kids) ++ Fm.headR t.op (i : Int)))), (4, .int .i64 (i : Int)), (5, .int .i64 (Fm.mostOf t.op (i : Int)))] (fun Q' hQ => ?_) ?_
          · skip
            refine WC.cond rfl (fun h52 => ?_) (fun h52 => ?_)
            · skip
              have h52 : (0 : Int) < (i : Int) := by simpa using h52
              refine WC.region ?_
              refine WL.step ?_
              refine WL.move rfl rfl ?_
              refine WL.step ?_
              refine WL.fieldAddr0 F.fld25_0 rfl rfl ?_
              refine WL.step ?_
              refine WL.loadP F.one5 rfl rfl (by repeat (first | exact List.Mem.head _ | apply List.Mem.tail)) rfl ?_
              refine WL.step ?_
              refine WL.move rfl rfl ?_
              refine WL.step ?_
              refine WL.callV F.fun60 rfl rfl (fun w _ => rsign_c _ _ w) ?_
              refine WL.step ?_
              refine WL.addS rfl rfl rfl (by have h9 : ((if t.op = 4 then ([33] : List UInt8) else [])).length ≤ 1 := (by split <;> simp); simp only [List.length_append]; omega) ?_
              refine WL.step ?_
              refine WL.assign rfl rfl ?_
              refine WL.nil ?_
              refine WQ.byCut hQ ⟨rfl, ?_, rfl, rfl, trivial⟩
              exact congrArg (fun z => some (Value.string (str z))) (by unfold Fm.headR; first | (rw [if_pos h52, List.append_assoc]) | (rw [if_neg h52, List.append_nil]))
            · skip
              have h52 : ¬ (0 : Int) < (i : Int) := by simpa using h52
              refine WC.skip ?_
              refine WQ.byCut hQ ⟨rfl, ?_, rfl, rfl, trivial⟩
              exact congrArg (fun z => some (Value.string (str z))) (by unfold Fm.headR; first | (rw [if_pos h52, List.append_assoc]) | (rw [if_neg h52, List.append_nil]))
          refine WQ.then_normal ?_
          refine WC.seq ?_
          refine WC.region ?_
          refine WL.step ?_
          refine WL.fieldAddr0 F.fld25_2 rfl rfl ?_
          refine WL.step ?_
          refine WL.loadP F.one23 rfl rfl (by repeat (first | exact List.Mem.head _ | apply List.Mem.tail)) rfl ?_
          refine WL.step ?_
          refine WL.move rfl rfl ?_
          refine WL.step ?_
          refine WL.indexAddr F.sl23 rfl rfl rfl hlt ?_
          refine WL.step ?_
          refine WL.fieldAddr F.fld25_0 rfl rfl ?_
          refine WL.step ?_
          refine WL.load1 F.one5 rfl rfl (v := .int .u8 k.op) (fun w hS => (hE.st hS).cell (hck 0 _ rfl)) ?_
          refine WL.step ?_
          refine WL.callV F.fun59 rfl rfl (fun w _ => line_c _ w) ?_
          refine WL.step ?_
          refine WL.move rfl rfl ?_
          refine WL.step ?_
          refine WL.gtI rfl rfl rfl ?_
          refine WL.nil ?_
          refine WQ.then_normal ?_
          refine WC.cond rfl (fun h67 => ?_) (fun h67 => ?_)
          · skip
            have hkd : Fm.kidR t.op (i : Int) k = [40] ++ Fm.textT k ++ [41] := by unfold Fm.kidR; rw [if_pos (by simpa using h67)]
            refine WC.region ?_
            refine WL.step ?_
            refine WL.move rfl rfl ?_
            refine WL.step ?_
            refine WL.addS rfl rfl rfl (by first | omega | (simp only [List.length_append, List.length_cons, List.length_nil]; omega)) ?_
            refine WL.step ?_
            refine WL.fieldAddr0 F.fld25_2 rfl rfl ?_
            refine WL.step ?_
            refine WL.loadP F.one23 rfl rfl (by repeat (first | exact List.Mem.head _ | apply List.Mem.tail)) rfl ?_
            refine WL.step ?_
            refine WL.move rfl rfl ?_
            refine WL.step ?_
            refine WL.indexAddr F.sl23 rfl rfl rfl hlt ?_
            refine WL.step ?_
            refine WL.loadN F.agg25 rfl rfl (vs := [Value.int .u8 k.op, .string (str k.name), .slice a1 k.kids.length c1]) rfl (fun w hS j v hv => (hE.st hS).cell (hck j v hv)) ?_
            refine WL.step ?_
            refine WL.callV F.fun21 rfl rfl (fun w hS => hrec k wb F1 a1 c1 w (by omega) (by omega) hrk (hE.st hS)) ?_
            refine WL.step ?_
            refine WL.addS rfl rfl rfl (by first | omega | (simp only [List.length_append, List.length_cons, List.length_nil]; omega)) ?_
            refine WL.step ?_
            refine WL.addS rfl rfl rfl (by first | omega | (simp only [List.length_append, List.length_cons, List.length_nil]; omega)) ?_
            refine WL.step ?_
            refine WL.assign rfl rfl ?_
            rw [show (Fm.textTo t.op i t.kids) ++ Fm.headR t.op (i : Int) ++ [40] ++ Fm.textT k ++ [41] = Fm.textTo t.op (i + 1) t.kids by rw [hto, hkd]; simp only [List.append_assoc]]
            refine WL.nil ?_
            refine WQ.block_normal ?_
            refine WQ.then_normal ?_
            refine WC.region ?_
            refine WL.step ?_
            refine WL.move rfl rfl ?_
            refine WL.step ?_
            refine WL.add rfl rfl rfl ⟨by omega, by omega⟩ ?_
            refine WL.step ?_
            refine WL.assign rfl rfl ?_
            refine WL.nil ?_
            refine WQ.back (i + 1) ?_ ?_ ?_ ?_
            · exact by omega
            · omega
            · exact ⟨rfl, rfl, rfl, trivial⟩
            · rfl
          · skip
            have hkd : Fm.kidR t.op (i : Int) k = Fm.textT k := by unfold Fm.kidR; rw [if_neg (by simpa using h67)]
            refine WC.region ?_
            refine WL.step ?_
            refine WL.move rfl rfl ?_
            refine WL.step ?_
            refine WL.fieldAddr0 F.fld25_2 rfl rfl ?_
            refine WL.step ?_
            refine WL.loadP F.one23 rfl rfl (by repeat (first | exact List.Mem.head _ | apply List.Mem.tail)) rfl ?_
            refine WL.step ?_
            refine WL.move rfl rfl ?_
            refine WL.step ?_
            refine WL.indexAddr F.sl23 rfl rfl rfl hlt ?_
            refine WL.step ?_
            refine WL.loadN F.agg25 rfl rfl (vs := [Value.int .u8 k.op, .string (str k.name), .slice a1 k.kids.length c1]) rfl (fun w hS j v hv => (hE.st hS).cell (hck j v hv)) ?_
            refine WL.step ?_
            refine WL.callV F.fun21 rfl rfl (fun w hS => hrec k wb F1 a1 c1 w (by omega) (by omega) hrk (hE.st hS)) ?_
            refine WL.step ?_
            refine WL.addS rfl rfl rfl (by first | omega | (simp only [List.length_append, List.length_cons, List.length_nil]; omega)) ?_
            refine WL.step ?_
            refine WL.assign rfl rfl ?_
            rw [show (Fm.textTo t.op i t.kids) ++ Fm.headR t.op (i : Int) ++ Fm.textT k = Fm.textTo t.op (i + 1) t.kids by rw [hto, hkd]; simp only [List.append_assoc]]
            refine WL.nil ?_
            refine WQ.block_normal ?_
            refine WQ.then_normal ?_
            refine WC.region ?_
            refine WL.step ?_
            refine WL.move rfl rfl ?_
            refine WL.step ?_
            refine WL.add rfl rfl rfl ⟨by omega, by omega⟩ ?_
            refine WL.step ?_
            refine WL.assign rfl rfl ?_
            refine WL.nil ?_
            refine WQ.back (i + 1) ?_ ?_ ?_ ?_
            · exact by omega
            · omega
            · exact ⟨rfl, rfl, rfl, trivial⟩
            · rfl
        · skip
          have hie : i = t.kids.length := by simp at h11; omega
          subst hie
          rw [← Fm.textL_all, ← hres]
          refine WC.exit ?_
          refine WQ.then_exit ?_
          refine WQ.then_exit ?_
          refine WQ.block_exit ?_
          refine WQ.then_normal ?_
          refine WC.seq ?_
          refine WC.region ?_
          refine WL.step ?_
          refine WL.move rfl rfl ?_
          refine WL.step ?_
          refine WL.assign rfl rfl ?_
          refine WL.nil ?_
          refine WQ.then_normal ?_
          refine WC.ret ?_
          exact WQ.ret (rs := [.tmp 2]) rfl (.tmp rfl .nil) (fun w hS => ⟨by first | (rw [hres]; rfl) | rfl, hS.drop⟩)

theorem Text_c : ∀ n, n ≤ 1099511627776 → TxC n
  | 0, _ => fun t wb G a c w hsz _ _ _ => by rw [Fm.rowT_eq] at hsz; simp at hsz
  | n + 1, h => Text_step n (by omega) (Text_c n (by omega))

end Go.Proofs.Ytbippghgkbapnaa

namespace Go.Proofs.Ytbippghgkbapnaa
open Go Go.Eng Go.Proofs
theorem valid_all {t : Tree} (h : Fm.validB t = true) : (Fm.rowT t).all Fm.rightB = true ∧ (Fm.rowT t).length ≤ 1000 := by
  have h1 := h
  rw [← Fm.refValid_eq, Fm.refValid] at h1
  simp only [Bool.and_eq_true, decide_eq_true_eq] at h1
  refine ⟨?_, h1.1.2⟩
  have he : (Fm.rowT t).all Fm.oneB = (Fm.rowT t).all Fm.rightB := by congr 1; funext x; exact Fm.oneB_right x
  rw [← he]; exact h1.1.1
theorem text_len {t : Tree} (h : Fm.validB t = true) : (Fm.textT t).length ≤ 50000 := by
  rw [← Fm.put_text t (valid_all h).1]
  unfold Fm.validB at h
  obtain ⟨l, hl⟩ := Option.isSome_iff_exists.1 h
  have := Fm.putS_len hl
  omega

theorem FormulaPrints_c (t : Tree) (G : List Nat) (a : Option Addr) (c : Nat) (wb : World) (hr : rdT wb t G (tv t a c)) : Pure Try.prog 5 [tv t a c] wb (.bool true) := by
  refine enter Try.func5 rfl Try.ntmps5 rfl (St.init _) ?_
  refine WC.seq ?_
  refine WC.region ?_
  refine WL.step ?_
  refine WL.boxN rfl rfl (fun b1 => ?_)
  refine WL.step ?_
  refine WL.assign rfl rfl ?_
  refine WL.nil ?_
  refine WQ.then_normal ?_
  refine WC.seq ?_
  refine WC.seq ?_
  refine WC.region ?_
  refine WL.step ?_
  refine WL.loadW F.agg25 rfl rfl (by repeat (first | exact List.Mem.head _ | apply List.Mem.tail)) rfl ?_
  refine WL.step ?_
  refine WL.callV F.fun17 rfl rfl (fun w hS => great_c t 100 (by omega) wb G a c w hr ((Ext.refl wb).st hS)) ?_
  refine WL.nil ?_
  refine WQ.then_normal ?_
  refine WC.cond rfl (fun h7 => ?_) (fun h7 => ?_)
  · skip
    refine WC.seq ?_
    refine WC.region ?_
    refine WL.step ?_
    refine WL.callV F.fun13 rfl rfl (fun w _ => wakes_c w) ?_
    refine WL.step ?_
    refine WL.assign rfl rfl ?_
    refine WL.nil ?_
    refine WQ.then_normal ?_
    refine WC.ret ?_
    refine WQ.then_ret ?_
    exact WQ.ret (rs := [.tmp 2]) rfl (.tmp rfl .nil) (fun w hS => ⟨rfl, hS.sublist (List.nil_sublist _)⟩)
  · skip
    obtain ⟨hsz, hlv, hsn⟩ := Fm.great_no h7
    refine WC.skip ?_
    refine WQ.then_normal ?_
    refine WC.seq ?_
    refine WC.region ?_
    refine WL.step ?_
    refine WL.loadW F.agg25 rfl rfl (by repeat (first | exact List.Mem.head _ | apply List.Mem.tail)) rfl ?_
    refine WL.step ?_
    refine WL.callC (β := List Nat × Option Addr × Nat) (res := fun y => tv t y.2.1 y.2.2) (cs := fun y => [own y.1 t (tv t y.2.1 y.2.2)]) (Cs := []) (O' := []) F.fun18 (fun d h => by cases h; rfl) rfl (List.Perm.refl _) (by simp) (by simp) (fun w hS _ => Copied_c 1200 (by omega) t wb G a c w (by omega) hr ((Ext.refl wb).st hS)) (fun y10 => ?_)
    refine WL.step ?_
    refine WL.alloc F.zero25 rfl (fun b3 => ?_)
    refine WL.step ?_
    refine WL.storeN F.agg25 rfl rfl rfl (by simp [Value.oneCell']) (by repeat (first | exact Upd.here | apply Upd.there)) (by repeat constructor) ?_
    refine WL.nil ?_
    refine WQ.then_normal ?_
    refine WC.seq ?_
    rcases hv : Fm.validB t with _ | _
    · skip
      refine WC.region ?_
      refine WL.step ?_
      refine WL.loadW F.agg25 rfl rfl (by repeat (first | exact List.Mem.head _ | apply List.Mem.tail)) rfl ?_
      refine WL.step ?_
      refine WL.callV (v := .tuple #[.string (str []), .int .i64 2]) F.fun19 rfl rfl (fun w hS => by have h9 := Print_c t y10.1 y10.2.1 y10.2.2 w (hS.ok (own y10.1 t (tv t y10.2.1 y10.2.2)) (by repeat (first | exact List.Mem.head _ | apply List.Mem.tail))).2; rw [printS, hv] at h9; exact h9) ?_
      refine WL.step ?_
      refine WL.move rfl rfl ?_
      refine WL.step ?_
      refine WL.extract rfl rfl rfl ?_
      refine WL.step ?_
      refine WL.extract rfl rfl rfl ?_
      refine WL.step ?_
      refine WL.assign rfl rfl ?_
      refine WL.step ?_
      refine WL.assign rfl rfl ?_
      refine WL.nil ?_
      refine WQ.then_normal ?_
      refine WC.seq ?_
      refine WC.seq ?_
      refine WC.region ?_
      refine WL.step ?_
      refine WL.loadW F.agg25 rfl rfl (by repeat (first | exact List.Mem.head _ | apply List.Mem.tail)) rfl ?_
      refine WL.step ?_
      refine WL.callV (v := .bool false) F.fun20 rfl rfl (fun w hS => by have h9 := rvalid_c t wb G a c w (by omega) hr ((Ext.refl wb).st hS); rw [Fm.refValid_eq, hv] at h9; exact h9) ?_
      refine WL.step ?_
      refine WL.not rfl rfl ?_
      refine WL.nil ?_
      refine WQ.then_normal ?_
      refine WC.condT rfl ?_
      refine WC.seq ?_
      refine WC.region ?_
      refine WL.step ?_
      refine WL.move rfl rfl ?_
      refine WL.step ?_
      refine WL.eqI rfl rfl rfl ?_
      refine WL.step ?_
      refine WL.move rfl rfl ?_
      refine WA.splitB (i := 21) rfl (fun g21 => ?_) (fun g21 => ?_)
      · skip
        refine WL.step (WL.guardT rfl rfl rfl ?_)
        refine WL.move rfl rfl ?_
        refine WL.step (WL.guardT rfl rfl rfl ?_)
        refine WL.eqS rfl rfl rfl ?_
        refine WL.step ?_
        refine WL.pickT rfl rfl rfl ?_
        refine WL.step ?_
        refine WL.move rfl rfl ?_
        refine WA.splitB (i := 25) rfl (fun g25 => ?_) (fun g25 => ?_)
        · skip
          refine WL.step (WL.guardT rfl rfl rfl ?_)
          refine WL.callV F.fun13 rfl rfl (fun w _ => wakes_c w) ?_
          refine WL.step ?_
          refine WL.pickT rfl rfl rfl ?_
          refine WL.step ?_
          refine WL.assign rfl rfl ?_
          refine WL.nil ?_
          refine WQ.then_normal ?_
          refine WC.ret ?_
          refine WQ.then_ret ?_
          exact WQ.ret (rs := [.tmp 2]) rfl (.tmp rfl .nil) (fun w hS => ⟨rfl, hS.sublist (List.nil_sublist _)⟩)
        · skip
          exact absurd g25 (by decide)
      · skip
        exact absurd g21 (by decide)
    · skip
      have htl := text_len hv
      have hpt := Fm.put_text t (valid_all hv).1
      refine WC.region ?_
      refine WL.step ?_
      refine WL.loadW F.agg25 rfl rfl (by repeat (first | exact List.Mem.head _ | apply List.Mem.tail)) rfl ?_
      refine WL.step ?_
      refine WL.callV (v := .tuple #[.string (str (Fm.textT t)), .int .i64 0]) F.fun19 rfl rfl (fun w hS => by have h9 := Print_c t y10.1 y10.2.1 y10.2.2 w (hS.ok (own y10.1 t (tv t y10.2.1 y10.2.2)) (by repeat (first | exact List.Mem.head _ | apply List.Mem.tail))).2; rw [printS, hv, if_pos rfl, if_pos rfl, hpt] at h9; exact h9) ?_
      refine WL.step ?_
      refine WL.move rfl rfl ?_
      refine WL.step ?_
      refine WL.extract rfl rfl rfl ?_
      refine WL.step ?_
      refine WL.extract rfl rfl rfl ?_
      refine WL.step ?_
      refine WL.assign rfl rfl ?_
      refine WL.step ?_
      refine WL.assign rfl rfl ?_
      refine WL.nil ?_
      refine WQ.then_normal ?_
      refine WC.seq ?_
      refine WC.seq ?_
      refine WC.region ?_
      refine WL.step ?_
      refine WL.loadW F.agg25 rfl rfl (by repeat (first | exact List.Mem.head _ | apply List.Mem.tail)) rfl ?_
      refine WL.step ?_
      refine WL.callV (v := .bool true) F.fun20 rfl rfl (fun w hS => by have h9 := rvalid_c t wb G a c w (by omega) hr ((Ext.refl wb).st hS); rw [Fm.refValid_eq, hv] at h9; exact h9) ?_
      refine WL.step ?_
      refine WL.not rfl rfl ?_
      refine WL.nil ?_
      refine WQ.then_normal ?_
      refine WC.condF rfl ?_
      refine WC.skip ?_
      refine WQ.then_normal ?_
      refine WC.seq ?_
      refine WC.region ?_
      refine WL.step ?_
      refine WL.move rfl rfl ?_
      refine WL.step ?_
      refine WL.eqI rfl rfl rfl ?_
      refine WL.step ?_
      refine WL.move rfl rfl ?_
      refine WA.splitB (i := 30) rfl (fun g30 => ?_) (fun g30 => ?_)
      · skip
        refine WL.step (WL.guardT rfl rfl rfl ?_)
        refine WL.move rfl rfl ?_
        refine WL.step (WL.guardT rfl rfl rfl ?_)
        refine WL.loadW F.agg25 rfl rfl (by repeat (first | exact List.Mem.head _ | apply List.Mem.tail)) rfl ?_
        refine WL.step (WL.guardT rfl rfl rfl ?_)
        refine WL.callV F.fun21 rfl rfl (fun w hS => Text_c 1200 (by omega) t wb G a c w hsz (by omega) hr ((Ext.refl wb).st hS)) ?_
        refine WL.step (WL.guardT rfl rfl rfl ?_)
        refine WL.eqS rfl rfl rfl ?_
        rw [show (Fm.textT t == Fm.textT t) = true by simp]
        refine WL.step ?_
        refine WL.pickT rfl rfl rfl ?_
        refine WL.step ?_
        refine WL.move rfl rfl ?_
        refine WA.splitB (i := 36) rfl (fun g36 => ?_) (fun g36 => ?_)
        · skip
          refine WL.step (WL.guardT rfl rfl rfl ?_)
          refine WL.loadW F.agg25 rfl rfl (by repeat (first | exact List.Mem.head _ | apply List.Mem.tail)) rfl ?_
          refine WL.step (WL.guardT rfl rfl rfl ?_)
          refine WL.loadW F.agg25 rfl rfl (by repeat (first | exact List.Mem.head _ | apply List.Mem.tail)) rfl ?_
          refine WL.step (WL.guardT rfl rfl rfl ?_)
          refine WL.callV (v := .bool true) F.fun16 rfl rfl (fun w hS => by have h9 := rSame_c 1200 (by omega) t t w y10.1 G _ _ _ _ w hsz (hS.ok (own y10.1 t (tv t y10.2.1 y10.2.2)) (by repeat (first | exact List.Mem.head _ | apply List.Mem.tail))).2 (((Ext.refl wb).st hS).tree hr) (Ext.refl w); rw [Fm.sameT_refl] at h9; exact h9) ?_
          refine WL.step ?_
          refine WL.pickT rfl rfl rfl ?_
          refine WL.step ?_
          refine WL.move rfl rfl ?_
          refine WA.splitB (i := 41) rfl (fun g41 => ?_) (fun g41 => ?_)
          · skip
            refine WL.step (WL.guardT rfl rfl rfl ?_)
            refine WL.callV F.fun13 rfl rfl (fun w _ => wakes_c w) ?_
            refine WL.step ?_
            refine WL.pickT rfl rfl rfl ?_
            refine WL.step ?_
            refine WL.assign rfl rfl ?_
            refine WL.nil ?_
            refine WQ.then_normal ?_
            refine WC.ret ?_
            exact WQ.ret (rs := [.tmp 2]) rfl (.tmp rfl .nil) (fun w hS => ⟨rfl, hS.sublist (List.nil_sublist _)⟩)
          · skip
            exact absurd g41 (by decide)
        · skip
          exact absurd g36 (by decide)
      · skip
        exact absurd g30 (by decide)

end Go.Proofs.Ytbippghgkbapnaa
