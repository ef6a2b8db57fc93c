import Derived.Test.YtbippghgkbapnaaSpec2
import Derived.Test.YtbippghgkbapnaaM5
import Derived.Test.YtbippghgkbapnaaSpec
import Derived.Test.YtbippghgkbapnaaFacts
set_option linter.unusedSimpArgs false
set_option linter.unusedVariables false
namespace Go.Proofs.Ytbippghgkbapnaa
open Go Go.Eng Go.Proofs
theorem kids_c (op : Int) (w : World) : Pure Try.prog 109 [.int .u8 op] w (.tuple #[.int .i64 (Fm.kidsOf op).1, .bool (Fm.kidsOf op).2]) := by
  refine enter Try.func109 rfl Try.ntmps109 rfl (St.init _) ?_
  refine WC.seq ?_
  refine WC.region ?_
  refine WL.step ?_
  refine WL.assign rfl rfl ?_
  refine WL.step ?_
  refine WL.assign rfl rfl ?_
  refine WL.nil ?_
  refine WQ.then_normal ?_
  refine WC.seq ?_
  refine WC.seq ?_
  refine WC.region ?_
  refine WL.step ?_
  refine WL.move rfl rfl ?_
  refine WL.nil ?_
  refine WQ.then_normal ?_
  refine WC.block ?_
  refine WC.seq ?_
  refine WC.seq ?_
  refine WC.region ?_
  refine WL.step ?_
  refine WL.eqI rfl rfl rfl ?_
  refine WL.step ?_
  refine WL.assign rfl rfl ?_
  refine WL.nil ?_
  refine WQ.then_normal ?_
  refine WC.splitB (i := 5) rfl (fun h5 => ?_) (fun h5 => ?_)
  · skip
    refine WC.condT rfl ?_
    refine WC.skip ?_
    refine WQ.then_normal ?_
    refine WC.condT rfl ?_
    refine WC.seq ?_
    refine WC.region ?_
    refine WL.step ?_
    refine WL.assign rfl rfl ?_
    refine WL.step ?_
    refine WL.assign rfl rfl ?_
    refine WL.nil ?_
    refine WQ.then_normal ?_
    refine WC.ret ?_
    refine WQ.block_ret ?_
    refine WQ.then_ret ?_
    exact WQ.ret (rs := [.tmp 2, .tmp 3]) rfl (.tmp rfl (.tmp rfl .nil)) (fun w hS => ⟨by simp_all [tup, Fm.kidsOf], hS⟩)
  · skip
    refine WC.condF rfl ?_
    refine WC.seq ?_
    refine WC.region ?_
    refine WL.step ?_
    refine WL.eqI rfl rfl rfl ?_
    refine WL.step ?_
    refine WL.assign rfl rfl ?_
    refine WL.nil ?_
    refine WQ.then_normal ?_
    refine WC.splitB (i := 5) rfl (fun h5 => ?_) (fun h5 => ?_)
    · skip
      refine WC.condT rfl ?_
      refine WC.skip ?_
      refine WQ.then_normal ?_
      refine WC.condT rfl ?_
      refine WC.seq ?_
      refine WC.region ?_
      refine WL.step ?_
      refine WL.assign rfl rfl ?_
      refine WL.step ?_
      refine WL.assign rfl rfl ?_
      refine WL.nil ?_
      refine WQ.then_normal ?_
      refine WC.ret ?_
      refine WQ.block_ret ?_
      refine WQ.then_ret ?_
      exact WQ.ret (rs := [.tmp 2, .tmp 3]) rfl (.tmp rfl (.tmp rfl .nil)) (fun w hS => ⟨by simp_all [tup, Fm.kidsOf], hS⟩)
    · skip
      refine WC.condF rfl ?_
      refine WC.region ?_
      refine WL.step ?_
      refine WL.eqI rfl rfl rfl ?_
      refine WL.step ?_
      refine WL.assign rfl rfl ?_
      refine WL.nil ?_
      refine WQ.then_normal ?_
      refine WC.splitB (i := 5) rfl (fun h5 => ?_) (fun h5 => ?_)
      · skip
        refine WC.condT rfl ?_
        refine WC.seq ?_
        refine WC.region ?_
        refine WL.step ?_
        refine WL.assign rfl rfl ?_
        refine WL.step ?_
        refine WL.assign rfl rfl ?_
        refine WL.nil ?_
        refine WQ.then_normal ?_
        refine WC.ret ?_
        refine WQ.block_ret ?_
        refine WQ.then_ret ?_
        exact WQ.ret (rs := [.tmp 2, .tmp 3]) rfl (.tmp rfl (.tmp rfl .nil)) (fun w hS => ⟨by simp_all [tup, Fm.kidsOf], hS⟩)
      · skip
        refine WC.condF rfl ?_
        refine WC.seq ?_
        refine WC.region ?_
        refine WL.step ?_
        refine WL.eqI rfl rfl rfl ?_
        refine WL.step ?_
        refine WL.assign rfl rfl ?_
        refine WL.nil ?_
        refine WQ.then_normal ?_
        refine WC.cond rfl (fun h9 => ?_) (fun h9 => ?_)
        · skip
          refine WC.seq ?_
          refine WC.region ?_
          refine WL.step ?_
          refine WL.assign rfl rfl ?_
          refine WL.step ?_
          refine WL.assign rfl rfl ?_
          refine WL.nil ?_
          refine WQ.then_normal ?_
          refine WC.ret ?_
          refine WQ.block_ret ?_
          refine WQ.then_ret ?_
          exact WQ.ret (rs := [.tmp 2, .tmp 3]) rfl (.tmp rfl (.tmp rfl .nil)) (fun w hS => ⟨by simp_all [tup, Fm.kidsOf], hS⟩)
        · skip
          refine WC.seq ?_
          refine WC.seq ?_
          refine WC.region ?_
          refine WL.step ?_
          refine WL.eqI rfl rfl rfl ?_
          refine WL.step ?_
          refine WL.assign rfl rfl ?_
          refine WL.nil ?_
          refine WQ.then_normal ?_
          refine WC.splitB (i := 11) rfl (fun h11 => ?_) (fun h11 => ?_)
          · skip
            refine WC.condT rfl ?_
            refine WC.skip ?_
            refine WQ.then_normal ?_
            refine WC.condT rfl ?_
            refine WC.seq ?_
            refine WC.region ?_
            refine WL.step ?_
            refine WL.assign rfl rfl ?_
            refine WL.step ?_
            refine WL.assign rfl rfl ?_
            refine WL.nil ?_
            refine WQ.then_normal ?_
            refine WC.ret ?_
            refine WQ.block_ret ?_
            refine WQ.then_ret ?_
            exact WQ.ret (rs := [.tmp 2, .tmp 3]) rfl (.tmp rfl (.tmp rfl .nil)) (fun w hS => ⟨by simp_all [tup, Fm.kidsOf], hS⟩)
          · skip
            refine WC.condF rfl ?_
            refine WC.seq ?_
            refine WC.region ?_
            refine WL.step ?_
            refine WL.eqI rfl rfl rfl ?_
            refine WL.step ?_
            refine WL.assign rfl rfl ?_
            refine WL.nil ?_
            refine WQ.then_normal ?_
            refine WC.splitB (i := 11) rfl (fun h11 => ?_) (fun h11 => ?_)
            · skip
              refine WC.condT rfl ?_
              refine WC.skip ?_
              refine WQ.then_normal ?_
              refine WC.condT rfl ?_
              refine WC.seq ?_
              refine WC.region ?_
              refine WL.step ?_
              refine WL.assign rfl rfl ?_
              refine WL.step ?_
              refine WL.assign rfl rfl ?_
              refine WL.nil ?_
              refine WQ.then_normal ?_
              refine WC.ret ?_
              refine WQ.block_ret ?_
              refine WQ.then_ret ?_
              exact WQ.ret (rs := [.tmp 2, .tmp 3]) rfl (.tmp rfl (.tmp rfl .nil)) (fun w hS => ⟨by simp_all [tup, Fm.kidsOf], hS⟩)
            · skip
              refine WC.condF rfl ?_
              refine WC.region ?_
              refine WL.step ?_
              refine WL.eqI rfl rfl rfl ?_
              refine WL.step ?_
              refine WL.assign rfl rfl ?_
              refine WL.nil ?_
              refine WQ.then_normal ?_
              refine WC.splitB (i := 11) rfl (fun h11 => ?_) (fun h11 => ?_)
              · skip
                refine WC.condT rfl ?_
                refine WC.seq ?_
                refine WC.region ?_
                refine WL.step ?_
                refine WL.assign rfl rfl ?_
                refine WL.step ?_
                refine WL.assign rfl rfl ?_
                refine WL.nil ?_
                refine WQ.then_normal ?_
                refine WC.ret ?_
                refine WQ.block_ret ?_
                refine WQ.then_ret ?_
                exact WQ.ret (rs := [.tmp 2, .tmp 3]) rfl (.tmp rfl (.tmp rfl .nil)) (fun w hS => ⟨by simp_all [tup, Fm.kidsOf], hS⟩)
              · skip
                refine WC.condF rfl ?_
                refine WC.seq ?_
                refine WC.seq ?_
                refine WC.region ?_
                refine WL.step ?_
                refine WL.eqI rfl rfl rfl ?_
                refine WL.step ?_
                refine WL.assign rfl rfl ?_
                refine WL.nil ?_
                refine WQ.then_normal ?_
                refine WC.splitB (i := 15) rfl (fun h15 => ?_) (fun h15 => ?_)
                · skip
                  refine WC.condT rfl ?_
                  refine WC.skip ?_
                  refine WQ.then_normal ?_
                  refine WC.condT rfl ?_
                  refine WC.seq ?_
                  refine WC.region ?_
                  refine WL.step ?_
                  refine WL.assign rfl rfl ?_
                  refine WL.step ?_
                  refine WL.assign rfl rfl ?_
                  refine WL.nil ?_
                  refine WQ.then_normal ?_
                  refine WC.ret ?_
                  refine WQ.block_ret ?_
                  refine WQ.then_ret ?_
                  exact WQ.ret (rs := [.tmp 2, .tmp 3]) rfl (.tmp rfl (.tmp rfl .nil)) (fun w hS => ⟨by simp_all [tup, Fm.kidsOf], hS⟩)
                · skip
                  refine WC.condF rfl ?_
                  refine WC.region ?_
                  refine WL.step ?_
                  refine WL.eqI rfl rfl rfl ?_
                  refine WL.step ?_
                  refine WL.assign rfl rfl ?_
                  refine WL.nil ?_
                  refine WQ.then_normal ?_
                  refine WC.splitB (i := 15) rfl (fun h15 => ?_) (fun h15 => ?_)
                  · skip
                    refine WC.condT rfl ?_
                    refine WC.seq ?_
                    refine WC.region ?_
                    refine WL.step ?_
                    refine WL.assign rfl rfl ?_
                    refine WL.step ?_
                    refine WL.assign rfl rfl ?_
                    refine WL.nil ?_
                    refine WQ.then_normal ?_
                    refine WC.ret ?_
                    refine WQ.block_ret ?_
                    refine WQ.then_ret ?_
                    exact WQ.ret (rs := [.tmp 2, .tmp 3]) rfl (.tmp rfl (.tmp rfl .nil)) (fun w hS => ⟨by simp_all [tup, Fm.kidsOf], hS⟩)
                  · skip
                    refine WC.condF rfl ?_
                    refine WC.seq ?_
                    refine WC.region ?_
                    refine WL.step ?_
                    refine WL.eqI rfl rfl rfl ?_
                    refine WL.step ?_
                    refine WL.assign rfl rfl ?_
                    refine WL.nil ?_
                    refine WQ.then_normal ?_
                    refine WC.cond rfl (fun h18 => ?_) (fun h18 => ?_)
                    · skip
                      refine WC.seq ?_
                      refine WC.region ?_
                      refine WL.step ?_
                      refine WL.assign rfl rfl ?_
                      refine WL.step ?_
                      refine WL.assign rfl rfl ?_
                      refine WL.nil ?_
                      refine WQ.then_normal ?_
                      refine WC.ret ?_
                      refine WQ.block_ret ?_
                      refine WQ.then_ret ?_
                      exact WQ.ret (rs := [.tmp 2, .tmp 3]) rfl (.tmp rfl (.tmp rfl .nil)) (fun w hS => ⟨by simp_all [tup, Fm.kidsOf], hS⟩)
                    · skip
                      refine WC.skip ?_
                      refine WQ.block_normal ?_
                      refine WQ.then_normal ?_
                      refine WC.seq ?_
                      refine WC.region ?_
                      refine WL.step ?_
                      refine WL.assign rfl rfl ?_
                      refine WL.step ?_
                      refine WL.assign rfl rfl ?_
                      refine WL.nil ?_
                      refine WQ.then_normal ?_
                      refine WC.ret ?_
                      exact WQ.ret (rs := [.tmp 2, .tmp 3]) rfl (.tmp rfl (.tmp rfl .nil)) (fun w hS => ⟨by simp_all [tup, Fm.kidsOf], hS⟩)

theorem right_c (t : Tree) (a : Option Addr) (c : Nat) (w : World) : Pure Try.prog 97 [tv t a c] w (.bool (Fm.rightB t)) := by
  refine enter Try.func97 rfl Try.ntmps97 rfl (St.init _) ?_
  refine WC.seq ?_
  refine WC.region ?_
  refine WL.step ?_
  refine WL.boxN rfl rfl (fun b1 => ?_)
  refine WL.step ?_
  refine WL.assign rfl rfl ?_
  refine WL.nil ?_
  refine WQ.then_normal ?_
  refine WC.seq ?_
  refine WC.region ?_
  refine WL.step ?_
  refine WL.fieldAddr0 F.fld25_0 rfl rfl ?_
  refine WL.step ?_
  refine WL.loadP F.one5 rfl rfl (by repeat (first | exact List.Mem.head _ | apply List.Mem.tail)) rfl ?_
  refine WL.step ?_
  refine WL.callV F.fun109 rfl rfl (fun w _ => kids_c _ w) ?_
  refine WL.step ?_
  refine WL.move rfl rfl ?_
  refine WL.step ?_
  refine WL.extract rfl rfl rfl ?_
  refine WL.step ?_
  refine WL.extract rfl rfl rfl ?_
  refine WL.step ?_
  refine WL.assign rfl rfl ?_
  refine WL.step ?_
  refine WL.assign rfl rfl ?_
  refine WL.nil ?_
  refine WQ.then_normal ?_
  refine WC.seq ?_
  refine WC.block ?_
  refine WC.seq ?_
  refine WC.cutF [(11, .bool (Fm.kidsBad t.op t.kids.length)), (1, pp b1)] (fun Q' hQ => ?_) ?_
  · skip
    refine WC.region ?_
    refine WL.step ?_
    refine WL.move rfl rfl ?_
    refine WL.step ?_
    refine WL.not rfl rfl ?_
    refine WL.step ?_
    refine WL.move rfl rfl ?_
    refine WA.splitB (i := 14) rfl (fun h14 => ?_) (fun h14 => ?_)
    · skip
      refine WL.step (WL.guardF rfl rfl rfl rfl rfl rfl ?_)
      refine WL.step (WL.guardF rfl rfl rfl rfl rfl rfl ?_)
      refine WL.step (WL.guardF rfl rfl rfl rfl rfl rfl ?_)
      refine WL.step (WL.guardU rfl rfl rfl rfl rfl ?_)
      refine WL.step (WL.guardU rfl rfl rfl rfl rfl ?_)
      refine WL.step (WL.guardU rfl rfl rfl rfl rfl ?_)
      refine WL.step (WL.guardU rfl rfl rfl rfl rfl ?_)
      refine WL.step (WL.guardF rfl rfl rfl rfl rfl rfl ?_)
      refine WL.step ?_
      refine WL.pickT rfl rfl rfl ?_
      refine WL.step ?_
      refine WL.move rfl rfl ?_
      refine WL.step (WL.guardF rfl rfl rfl rfl rfl rfl ?_)
      refine WL.step (WL.guardF rfl rfl rfl rfl rfl rfl ?_)
      refine WL.step (WL.guardF rfl rfl rfl rfl rfl rfl ?_)
      refine WL.step (WL.guardU rfl rfl rfl rfl rfl ?_)
      refine WL.step (WL.guardU rfl rfl rfl rfl rfl ?_)
      refine WL.step (WL.guardU rfl rfl rfl rfl rfl ?_)
      refine WL.step (WL.guardU rfl rfl rfl rfl rfl ?_)
      refine WL.step (WL.guardU rfl rfl rfl rfl rfl ?_)
      refine WL.step (WL.guardF rfl rfl rfl rfl rfl rfl ?_)
      refine WL.step ?_
      refine WL.pickT rfl rfl rfl ?_
      refine WL.step ?_
      refine WL.assign rfl rfl ?_
      refine WL.nil ?_
      refine WQ.byCut hQ (subF_bool ?_ ⟨rfl, trivial⟩ rfl)
      first | (rw [Fm.kidsBad, h14, h17]; simp [bne]; done) | (simp_all [Fm.kidsBad]; done)
    · skip
      refine WL.step (WL.guardT rfl rfl rfl ?_)
      refine WL.move rfl rfl ?_
      refine WL.step (WL.guardT rfl rfl rfl ?_)
      refine WL.eqI rfl rfl rfl ?_
      refine WL.step (WL.guardT rfl rfl rfl ?_)
      refine WL.move rfl rfl ?_
      refine WA.splitB (i := 17) rfl (fun h17 => ?_) (fun h17 => ?_)
      · skip
        refine WL.step (WL.guardT rfl rfl rfl ?_)
        refine WL.fieldAddr0 F.fld25_2 rfl rfl ?_
        refine WL.step (WL.guardT rfl rfl rfl ?_)
        refine WL.loadP F.one23 rfl rfl (by repeat (first | exact List.Mem.head _ | apply List.Mem.tail)) rfl ?_
        refine WL.step (WL.guardT rfl rfl rfl ?_)
        refine WL.lenSl F.und23 rfl rfl ?_
        refine WL.step (WL.guardT rfl rfl rfl ?_)
        refine WL.ltI rfl rfl rfl ?_
        refine WL.step (WL.guardT rfl rfl rfl ?_)
        refine WL.pickT rfl rfl rfl ?_
        refine WL.step ?_
        refine WL.pickF rfl rfl rfl ?_
        refine WL.step ?_
        refine WL.move rfl rfl ?_
        refine WA.splitB (i := 24) rfl (fun h24 => ?_) (fun h24 => ?_)
        · skip
          refine WL.step (WL.guardF rfl rfl rfl rfl rfl rfl ?_)
          refine WL.step (WL.guardF rfl rfl rfl rfl rfl rfl ?_)
          refine WL.step (WL.guardF rfl rfl rfl rfl rfl rfl ?_)
          refine WL.step (WL.guardU rfl rfl rfl rfl rfl ?_)
          refine WL.step (WL.guardU rfl rfl rfl rfl rfl ?_)
          refine WL.step (WL.guardU rfl rfl rfl rfl rfl ?_)
          refine WL.step (WL.guardU rfl rfl rfl rfl rfl ?_)
          refine WL.step (WL.guardU rfl rfl rfl rfl rfl ?_)
          refine WL.step (WL.guardF rfl rfl rfl rfl rfl rfl ?_)
          refine WL.step ?_
          refine WL.pickT rfl rfl rfl ?_
          refine WL.step ?_
          refine WL.assign rfl rfl ?_
          refine WL.nil ?_
          refine WQ.byCut hQ (subF_bool ?_ ⟨rfl, trivial⟩ rfl)
          first | (rw [Fm.kidsBad, h14, h17]; simp [bne]; done) | (simp_all [Fm.kidsBad]; done)
        · skip
          refine WL.step (WL.guardT rfl rfl rfl ?_)
          refine WL.move rfl rfl ?_
          refine WL.step (WL.guardT rfl rfl rfl ?_)
          refine WL.neI rfl rfl rfl ?_
          refine WL.step (WL.guardT rfl rfl rfl ?_)
          refine WL.move rfl rfl ?_
          refine WA.splitB (i := 27) rfl (fun h27 => ?_) (fun h27 => ?_)
          · skip
            refine WL.step (WL.guardT rfl rfl rfl ?_)
            refine WL.fieldAddr0 F.fld25_2 rfl rfl ?_
            refine WL.step (WL.guardT rfl rfl rfl ?_)
            refine WL.loadP F.one23 rfl rfl (by repeat (first | exact List.Mem.head _ | apply List.Mem.tail)) rfl ?_
            refine WL.step (WL.guardT rfl rfl rfl ?_)
            refine WL.lenSl F.und23 rfl rfl ?_
            refine WL.step (WL.guardT rfl rfl rfl ?_)
            refine WL.move rfl rfl ?_
            refine WL.step (WL.guardT rfl rfl rfl ?_)
            refine WL.neI rfl rfl rfl ?_
            refine WL.step (WL.guardT rfl rfl rfl ?_)
            refine WL.pickT rfl rfl rfl ?_
            refine WL.step ?_
            refine WL.pickF rfl rfl rfl ?_
            refine WL.step ?_
            refine WL.assign rfl rfl ?_
            refine WL.nil ?_
            refine WQ.byCut hQ (subF_bool ?_ ⟨rfl, trivial⟩ rfl)
            first | (rw [Fm.kidsBad, h14, h17]; simp [bne]; done) | (simp_all [Fm.kidsBad]; done)
          · skip
            refine WL.step (WL.guardF rfl rfl rfl rfl rfl rfl ?_)
            refine WL.step (WL.guardF rfl rfl rfl rfl rfl rfl ?_)
            refine WL.step (WL.guardF rfl rfl rfl rfl rfl rfl ?_)
            refine WL.step (WL.guardF rfl rfl rfl rfl rfl rfl ?_)
            refine WL.step (WL.guardF rfl rfl rfl rfl rfl rfl ?_)
            refine WL.step (WL.guardT rfl rfl rfl ?_)
            refine WL.pickF rfl rfl rfl ?_
            refine WL.step ?_
            refine WL.pickF rfl rfl rfl ?_
            refine WL.step ?_
            refine WL.assign rfl rfl ?_
            refine WL.nil ?_
            refine WQ.byCut hQ (subF_bool ?_ ⟨rfl, trivial⟩ rfl)
            first | (rw [Fm.kidsBad, h14, h17]; simp [bne]; done) | (simp_all [Fm.kidsBad]; done)
      · skip
        refine WL.step (WL.guardF rfl rfl rfl rfl rfl rfl ?_)
        refine WL.step (WL.guardF rfl rfl rfl rfl rfl rfl ?_)
        refine WL.step (WL.guardF rfl rfl rfl rfl rfl rfl ?_)
        refine WL.step (WL.guardF rfl rfl rfl rfl rfl rfl ?_)
        refine WL.step (WL.guardT rfl rfl rfl ?_)
        refine WL.pickF rfl rfl rfl ?_
        refine WL.step ?_
        refine WL.pickF rfl rfl rfl ?_
        refine WL.step ?_
        refine WL.move rfl rfl ?_
        refine WL.step (WL.guardT rfl rfl rfl ?_)
        refine WL.move rfl rfl ?_
        refine WL.step (WL.guardT rfl rfl rfl ?_)
        refine WL.neI rfl rfl rfl ?_
        refine WL.step (WL.guardT rfl rfl rfl ?_)
        refine WL.move rfl rfl ?_
        refine WA.splitB (i := 27) rfl (fun h27 => ?_) (fun h27 => ?_)
        · skip
          refine WL.step (WL.guardT rfl rfl rfl ?_)
          refine WL.fieldAddr0 F.fld25_2 rfl rfl ?_
          refine WL.step (WL.guardT rfl rfl rfl ?_)
          refine WL.loadP F.one23 rfl rfl (by repeat (first | exact List.Mem.head _ | apply List.Mem.tail)) rfl ?_
          refine WL.step (WL.guardT rfl rfl rfl ?_)
          refine WL.lenSl F.und23 rfl rfl ?_
          refine WL.step (WL.guardT rfl rfl rfl ?_)
          refine WL.move rfl rfl ?_
          refine WL.step (WL.guardT rfl rfl rfl ?_)
          refine WL.neI rfl rfl rfl ?_
          refine WL.step (WL.guardT rfl rfl rfl ?_)
          refine WL.pickT rfl rfl rfl ?_
          refine WL.step ?_
          refine WL.pickF rfl rfl rfl ?_
          refine WL.step ?_
          refine WL.assign rfl rfl ?_
          refine WL.nil ?_
          refine WQ.byCut hQ (subF_bool ?_ ⟨rfl, trivial⟩ rfl)
          first | (rw [Fm.kidsBad, h14, h17]; simp [bne]; done) | (simp_all [Fm.kidsBad]; done)
        · skip
          refine WL.step (WL.guardF rfl rfl rfl rfl rfl rfl ?_)
          refine WL.step (WL.guardF rfl rfl rfl rfl rfl rfl ?_)
          refine WL.step (WL.guardF rfl rfl rfl rfl rfl rfl ?_)
          refine WL.step (WL.guardF rfl rfl rfl rfl rfl rfl ?_)
          refine WL.step (WL.guardF rfl rfl rfl rfl rfl rfl ?_)
          refine WL.step (WL.guardT rfl rfl rfl ?_)
          refine WL.pickF rfl rfl rfl ?_
          refine WL.step ?_
          refine WL.pickF rfl rfl rfl ?_
          refine WL.step ?_
          refine WL.assign rfl rfl ?_
          refine WL.nil ?_
          refine WQ.byCut hQ (subF_bool ?_ ⟨rfl, trivial⟩ rfl)
          first | (rw [Fm.kidsBad, h14, h17]; simp [bne]; done) | (simp_all [Fm.kidsBad]; done)
  refine WQ.then_normal ?_
  refine WC.cond rfl (fun h11 => ?_) (fun h11 => ?_)
  · skip
    refine WC.seq ?_
    refine WC.region ?_
    refine WL.step ?_
    refine WL.assign rfl rfl ?_
    refine WL.nil ?_
    refine WQ.then_normal ?_
    refine WC.ret ?_
    refine WQ.block_ret ?_
    refine WQ.then_ret ?_
    exact WQ.ret (rs := [.tmp 2]) rfl (.tmp rfl .nil) (fun w hS => ⟨by simp_all [tup, Fm.rightB], hS.drop⟩)
  · skip
    refine WC.seq ?_
    refine WC.region ?_
    refine WL.step ?_
    refine WL.fieldAddr0 F.fld25_0 rfl rfl ?_
    refine WL.step ?_
    refine WL.loadP F.one5 rfl rfl (by repeat (first | exact List.Mem.head _ | apply List.Mem.tail)) rfl ?_
    refine WL.step ?_
    refine WL.eqI rfl rfl rfl ?_
    refine WL.step ?_
    refine WL.assign rfl rfl ?_
    refine WL.nil ?_
    refine WQ.then_normal ?_
    refine WC.cond rfl (fun h35 => ?_) (fun h35 => ?_)
    · skip
      refine WC.seq ?_
      refine WC.region ?_
      refine WL.step ?_
      refine WL.fieldAddr0 F.fld25_1 rfl rfl ?_
      refine WL.step ?_
      refine WL.loadP F.one9 rfl rfl (by repeat (first | exact List.Mem.head _ | apply List.Mem.tail)) rfl ?_
      refine WL.step ?_
      refine WL.callV F.fun79 rfl rfl (fun w _ => isName_c _ w) ?_
      refine WL.step ?_
      refine WL.assign rfl rfl ?_
      refine WL.nil ?_
      refine WQ.then_normal ?_
      refine WC.ret ?_
      refine WQ.block_ret ?_
      refine WQ.then_ret ?_
      exact WQ.ret (rs := [.tmp 2]) rfl (.tmp rfl .nil) (fun w hS => ⟨by simp_all [tup, Fm.rightB], hS.drop⟩)
    · skip
      refine WC.skip ?_
      refine WQ.block_normal ?_
      refine WQ.then_normal ?_
      refine WC.seq ?_
      refine WC.region ?_
      refine WL.step ?_
      refine WL.fieldAddr0 F.fld25_1 rfl rfl ?_
      refine WL.step ?_
      refine WL.loadP F.one9 rfl rfl (by repeat (first | exact List.Mem.head _ | apply List.Mem.tail)) rfl ?_
      refine WL.step ?_
      refine WL.eqS rfl rfl rfl ?_
      refine WL.step ?_
      refine WL.assign rfl rfl ?_
      refine WL.nil ?_
      refine WQ.then_normal ?_
      refine WC.ret ?_
      exact WQ.ret (rs := [.tmp 2]) rfl (.tmp rfl .nil) (fun w hS => ⟨by simp_all [tup, Fm.rightB], hS.drop⟩)

def VPost (bl : Nat) (w : World) : Option Nat → Ending → World → Prop
  | some l, e, w' => e = .returned (.bool true) ∧ St w [bl] [pt bl [.int .i64 (l : Int)] 3] w'
  | none, e, w' => ∃ cs, e = .returned (.bool false) ∧ St w [bl] [pt bl cs 3] w'
def NPost (bl : Nat) (w : World) : Option Nat → Ending → World → Prop
  | some l, e, w' => e = .returned (.bool false) ∧ St w [bl] [pt bl [.int .i64 (l : Int)] 3] w'
  | none, e, w' => ∃ cs, e = .returned (.bool true) ∧ St w [bl] [pt bl cs 3] w'
def IPost (bl : Nat) (w : World) : Option Nat → Ending → World → Prop
  | some l, e, w' => e = .returned (.int .i64 (-1)) ∧ St w [bl] [pt bl [.int .i64 (l : Int)] 3] w'
  | none, e, w' => ∃ x : Nat × List Value, e = .returned (.int .i64 (x.1 : Int)) ∧ St w [bl] [pt bl x.2 3] w'
def VC (lv : Nat) : Prop := ∀ t F a c left bl w, rdT w t F (tv t a c) → bl ∉ F → left ≤ 1000 → w.heap[bl]? = some (.cells [Value.int .i64 ((left : Nat) : Int)].toArray 3 (0, 0)) →
  Calls Try.prog 71 [tv t a c, .int .i64 (lv : Int), pp bl].toArray w (VPost bl w (Fm.validT lv t left))
/-- What the kids' check stands on. -/
structure VFr (w : World) (lv bl b4 b5 : Nat) (t : Tree) (G : List Nat) (a : Option Addr) (c left : Nat) : Prop where
  rd : rdT w t G (tv t a c)
  nf : bl ∉ G
  le : left ≤ 1000
  hl : w.heap[bl]? = some (.cells [Value.int .i64 (left : Int)].toArray 3 (0, 0))
  h4 : w.heap[b4]? = some (.cells [Value.int .i64 ((lv + 1 : Nat) : Int)].toArray 3 (0, 0))
  h5 : w.heap[b5]? = some (.cells [pp bl].toArray 115 (0, 0))
  n4 : b4 ≠ bl
  n5 : b5 ≠ bl
theorem rdT_out {w : World} {t : Tree} {F : List Nat} {v : Value} {bl : Nat} (h : rdT w t F v) (hn : bl ∉ F) : ∀ k ∈ F, k < w.heap.size ∧ k ∉ [bl] :=
  fun k hk => ⟨rdT_lt h k hk, by simp only [List.mem_singleton]; intro e; subst e; exact hn hk⟩
theorem cell_of_heap {w : World} {b : Nat} {cs : List Value} {e : TypeId} {j : Nat} {v : Value} (h : w.heap[b]? = some (.cells cs.toArray e (0, 0))) (hv : cs[j]? = some v) : w.cell? ⟨b, j, none⟩ = some v := by
  simp [World.cell?, h, hv]

theorem valid1_c (lv : Nat) (hlv : lv ≤ 1000) (hV : VC lv) (t : Tree) (G : List Nat) (a : Option Addr) (c left bl b4 b5 : Nat) (w : World) (hw : VFr w lv bl b4 b5 t G a c left) :
    Calls Try.prog 99 [tv t a c, pp b4, pp b5].toArray w (NPost bl w (Fm.validT lv t left)) := by
  have hN := fun w hr hp => hV t G a c left bl w hr hw.nf hw.le hp
  refine enter Try.func99 rfl Try.ntmps99 rfl (St.init1 hw.hl) ?_
  refine WC.seq ?_
  refine WC.region ?_
  refine WL.step ?_
  refine WL.boxN rfl rfl (fun b3 => ?_)
  refine WL.step ?_
  refine WL.assign rfl rfl ?_
  refine WL.nil ?_
  refine WQ.then_normal ?_
  refine WC.seq ?_
  rcases hv : Fm.validT lv t left with _ | l
  · skip
    rw [hv] at hN
    refine WC.region ?_
    refine WL.step ?_
    refine WL.loadW F.agg25 rfl rfl (by repeat (first | exact List.Mem.head _ | apply List.Mem.tail)) rfl ?_
    refine WL.step ?_
    refine WL.load1 F.one3 rfl rfl (fun w hS => hS.oldc (cell_of_heap hw.h4 rfl) (by simp [hw.n4])) ?_
    refine WL.step ?_
    refine WL.sub rfl rfl rfl ⟨by omega, by omega⟩ ?_
    refine WA.say 7 (.int .i64 (lv : Int)) (congrArg (fun z => some (Value.int .i64 z)) (show ((lv + 1 : Nat) : Int) - 1 = (lv : Int) by omega)) ?_
    refine WL.step ?_
    refine WL.load1 F.one115 rfl rfl (fun w hS => hS.oldc (cell_of_heap hw.h5 rfl) (by simp [hw.n5])) ?_
    refine WL.step ?_
    refine WL.call1B (β := List Value) (v := .bool false) (c1 := fun cs => pt bl cs 3) F.fun71 rfl rfl (by repeat (first | exact Rem.here | apply Rem.there)) (fun w hS => hN w (hS.oldT hw.rd (rdT_out hw.rd hw.nf)) (hS.heap (by repeat (first | exact List.Mem.head _ | apply List.Mem.tail)))) (fun cs9 => ?_)
    refine WL.step ?_
    refine WL.not rfl rfl ?_
    refine WL.step ?_
    refine WL.assign rfl rfl ?_
    refine WL.nil ?_
    refine WQ.then_normal ?_
    refine WC.ret ?_
    refine WQ.ret (rs := [.tmp 4]) rfl (.tmp rfl .nil) (fun w hS => ?_)
    exact ⟨cs9, rfl, (St.pick hS (c := pt bl cs9 3) (by repeat (first | exact Rem.here | apply Rem.there))).one1⟩
  · skip
    rw [hv] at hN
    refine WC.region ?_
    refine WL.step ?_
    refine WL.loadW F.agg25 rfl rfl (by repeat (first | exact List.Mem.head _ | apply List.Mem.tail)) rfl ?_
    refine WL.step ?_
    refine WL.load1 F.one3 rfl rfl (fun w hS => hS.oldc (cell_of_heap hw.h4 rfl) (by simp [hw.n4])) ?_
    refine WL.step ?_
    refine WL.sub rfl rfl rfl ⟨by omega, by omega⟩ ?_
    refine WA.say 7 (.int .i64 (lv : Int)) (congrArg (fun z => some (Value.int .i64 z)) (show ((lv + 1 : Nat) : Int) - 1 = (lv : Int) by omega)) ?_
    refine WL.step ?_
    refine WL.load1 F.one115 rfl rfl (fun w hS => hS.oldc (cell_of_heap hw.h5 rfl) (by simp [hw.n5])) ?_
    refine WL.step ?_
    refine WL.call1S (v := .bool true) (bs' := [.int .i64 (l : Int)]) F.fun71 rfl rfl (by repeat (first | exact Rem.here | apply Rem.there)) (fun w hS => hN w (hS.oldT hw.rd (rdT_out hw.rd hw.nf)) (hS.heap (by repeat (first | exact List.Mem.head _ | apply List.Mem.tail)))) ?_
    refine WL.step ?_
    refine WL.not rfl rfl ?_
    refine WL.step ?_
    refine WL.assign rfl rfl ?_
    refine WL.nil ?_
    refine WQ.then_normal ?_
    refine WC.ret ?_
    refine WQ.ret (rs := [.tmp 4]) rfl (.tmp rfl .nil) (fun w hS => ?_)
    exact ⟨rfl, (St.pick hS (c := pt bl [.int .i64 (l : Int)] 3) (by repeat (first | exact Rem.here | apply Rem.there))).one1⟩

theorem indexV_c (lv : Nat) (hlv : lv ≤ 1000) (hV : VC lv) (t : Tree) (G : List Nat) (a : Option Addr) (c left bl b4 b5 : Nat) (w : World) (hw : VFr w lv bl b4 b5 t G a c left) :
    Calls Try.prog 110 [.slice a t.kids.length c, .func (.func 99) [].toArray [pp b4, pp b5].toArray].toArray w (IPost bl w (Fm.validL lv t.kids left)) := by
  refine enter Try.func110 rfl Try.ntmps110 rfl (St.init1 hw.hl) ?_
  refine WC.seq ?_
  refine WC.region ?_
  refine WL.step ?_
  refine WL.assign rfl rfl ?_
  refine WL.nil ?_
  refine WQ.then_normal ?_
  refine WC.seq ?_
  refine WC.seq ?_
  refine WC.region ?_
  refine WL.step ?_
  refine WL.move rfl rfl ?_
  refine WL.step ?_
  refine WL.lenSl F.und23 rfl rfl ?_
  refine WL.step ?_
  refine WL.move rfl rfl ?_
  refine WL.nil ?_
  refine WQ.then_normal ?_
  refine WC.block ?_
  refine WC.loop (α := Nat × Nat) (fun g => g.1 ≤ t.kids.length ∧ g.1 + g.2 ≤ 1000 ∧ Fm.validL lv t.kids left = Fm.validL lv (t.kids.drop g.1) g.2) (fun g => [(0, .slice a t.kids.length c), (1, .func (.func 99) [].toArray [pp b4, pp b5].toArray), (7, .int .i64 (t.kids.length : Int)), (8, .int .i64 (g.1 : Int))]) (fun g => [pt bl [.int .i64 (g.2 : Int)] 3]) (fun g => t.kids.length - g.1) ((0, left)) ?_ ?_ ?_ ?_
  · exact ⟨Nat.zero_le _, by have := hw.le; show 0 + left ≤ 1000; omega, rfl⟩
  · exact ⟨rfl, rfl, rfl, rfl, trivial⟩
  · rfl
  rintro ⟨i, lf⟩ ⟨hi, hil, hval⟩
  dsimp only at hi hil hval
  have hlf : lf ≤ 1000 := by omega
  show WC _ _ _ _ _ _ _ [(0, .slice a t.kids.length c), (1, .func (.func 99) [].toArray [pp b4, pp b5].toArray), (7, .int .i64 (t.kids.length : Int)), (8, .int .i64 (i : Int))] [pt bl [.int .i64 (lf : Int)] 3]
  refine WC.seq ?_
  refine WC.region ?_
  refine WL.step ?_
  refine WL.ltI rfl rfl rfl ?_
  refine WL.nil ?_
  refine WQ.then_normal ?_
  refine WC.seq ?_
  refine WC.cond rfl (fun h9 => ?_) (fun h9 => ?_)
  · skip
    have hlt : i < t.kids.length := by simpa using h9
    obtain ⟨k, hk⟩ : ∃ k, t.kids[i]? = some k := ⟨_, List.getElem?_eq_getElem hlt⟩
    have hst := Fm.validL_drop (lv := lv) (left := lf) hk
    obtain ⟨b, off, F1, a1, c1, ha, hbF, hF1, hk1, hcells⟩ := rdT_at hw.rd hk
    subst ha
    refine WC.skip ?_
    refine WQ.then_normal ?_
    refine WC.seq ?_
    refine WC.block ?_
    refine WC.seq ?_
    refine WC.region ?_
    refine WL.step ?_
    refine WL.move rfl rfl ?_
    refine WL.step ?_
    refine WL.assign rfl rfl ?_
    refine WL.nil ?_
    refine WQ.then_normal ?_
    refine WC.seq ?_
    rcases hv : Fm.validT lv k lf with _ | l
    · skip
      rw [hv] at hst
      have hval2 : Fm.validL lv t.kids left = none := hval.trans hst
      have hN := fun w (hw : VFr w lv bl b4 b5 k F1 a1 c1 lf) => valid1_c lv hlv hV k F1 a1 c1 lf bl b4 b5 w hw
      rw [hv] at hN
      refine WC.region ?_
      refine WL.step ?_
      refine WL.move rfl rfl ?_
      refine WL.step ?_
      refine WL.move rfl rfl ?_
      refine WL.step ?_
      refine WL.move rfl rfl ?_
      refine WL.step ?_
      refine WL.indexAddr F.sl23 rfl rfl rfl hlt ?_
      refine WL.step ?_
      refine WL.loadN F.agg25 rfl rfl (vs := [.int .u8 k.op, .string (str k.name), .slice a1 k.kids.length c1]) rfl (fun w hS j v hj => hS.oldc (hcells j v hj) (by simp only [List.mem_singleton]; intro e; exact hw.nf (e ▸ hbF))) ?_
      refine WL.step ?_
      refine WL.callFA (β := List Value) (v := .bool true) (c1 := fun cs => pt bl (cs) 3) F.fun99 rfl rfl rfl (by repeat (first | exact Rem.here | apply Rem.there)) (fun w hS => hN w ⟨hS.oldT hk1 (rdT_out hw.rd hw.nf |> fun h x hx => h x (hF1 x hx)), fun hb => hw.nf (hF1 _ hb), hlf, hS.heap (by repeat (first | exact List.Mem.head _ | apply List.Mem.tail)), hS.oldh hw.h4 (by simp [hw.n4]), hS.oldh hw.h5 (by simp [hw.n5]), hw.n4, hw.n5⟩) (fun cs16 => ?_)
      refine WL.nil ?_
      refine WQ.then_normal ?_
      refine WC.condT rfl ?_
      refine WC.seq ?_
      refine WC.region ?_
      refine WL.step ?_
      refine WL.move rfl rfl ?_
      refine WL.step ?_
      refine WL.assign rfl rfl ?_
      refine WL.nil ?_
      refine WQ.then_normal ?_
      refine WC.ret ?_
      refine WQ.block_ret ?_
      refine WQ.then_ret ?_
      refine WQ.then_ret ?_
      refine WQ.block_ret ?_
      refine WQ.then_ret ?_
      refine WQ.ret (rs := [.tmp 4]) rfl (.tmp rfl .nil) (fun w hS => ?_)
      rw [hval2]
      exact ⟨(i, cs16), rfl, hS⟩
    · skip
      rw [hv] at hst
      have hval2 : Fm.validL lv t.kids left = Fm.validL lv (t.kids.drop (i + 1)) l := hval.trans hst
      have hN := fun w (hw : VFr w lv bl b4 b5 k F1 a1 c1 lf) => valid1_c lv hlv hV k F1 a1 c1 lf bl b4 b5 w hw
      rw [hv] at hN
      refine WC.region ?_
      refine WL.step ?_
      refine WL.move rfl rfl ?_
      refine WL.step ?_
      refine WL.move rfl rfl ?_
      refine WL.step ?_
      refine WL.move rfl rfl ?_
      refine WL.step ?_
      refine WL.indexAddr F.sl23 rfl rfl rfl hlt ?_
      refine WL.step ?_
      refine WL.loadN F.agg25 rfl rfl (vs := [.int .u8 k.op, .string (str k.name), .slice a1 k.kids.length c1]) rfl (fun w hS j v hj => hS.oldc (hcells j v hj) (by simp only [List.mem_singleton]; intro e; exact hw.nf (e ▸ hbF))) ?_
      refine WL.step ?_
      refine WL.callFA (β := Unit) (v := .bool false) (c1 := fun cs => pt bl ([.int .i64 (l : Int)]) 3) F.fun99 rfl rfl rfl (by repeat (first | exact Rem.here | apply Rem.there)) (fun w hS => (hN w ⟨hS.oldT hk1 (rdT_out hw.rd hw.nf |> fun h x hx => h x (hF1 x hx)), fun hb => hw.nf (hF1 _ hb), hlf, hS.heap (by repeat (first | exact List.Mem.head _ | apply List.Mem.tail)), hS.oldh hw.h4 (by simp [hw.n4]), hS.oldh hw.h5 (by simp [hw.n5]), hw.n4, hw.n5⟩).mono (fun e w' h => ⟨(), h⟩)) (fun _ => ?_)
      refine WL.nil ?_
      refine WQ.then_normal ?_
      refine WC.condF rfl ?_
      refine WC.skip ?_
      refine WQ.block_normal ?_
      refine WQ.then_normal ?_
      refine WC.region ?_
      refine WL.step ?_
      refine WL.add rfl rfl rfl ⟨by omega, by omega⟩ ?_
      refine WL.step ?_
      refine WL.move rfl rfl ?_
      refine WL.nil ?_
      refine WQ.back ((i + 1, l)) ?_ ?_ ?_ ?_
      · exact ⟨by show i + 1 ≤ t.kids.length; omega, by have := Fm.validT_le hv; show i + 1 + l ≤ 1000; omega, hval2⟩
      · (show t.kids.length - (i + 1) < t.kids.length - i; omega)
      · exact ⟨rfl, rfl, rfl, rfl, trivial⟩
      · rfl
  · skip
    have hie : i = t.kids.length := by simp at h9; omega
    subst hie
    rw [List.drop_length] at hval
    have hval3 : Fm.validL lv t.kids left = some lf := hval
    refine WC.exit ?_
    refine WQ.then_exit ?_
    refine WQ.then_exit ?_
    refine WQ.block_exit ?_
    refine WQ.then_normal ?_
    refine WC.seq ?_
    refine WC.region ?_
    refine WL.step ?_
    refine WL.assign rfl rfl ?_
    refine WL.nil ?_
    refine WQ.then_normal ?_
    refine WC.ret ?_
    refine WQ.ret (rs := [.tmp 4]) rfl (.tmp rfl .nil) (fun w hS => ?_)
    rw [hval3]
    exact ⟨rfl, hS⟩

theorem containsV_c (lv : Nat) (hlv : lv ≤ 1000) (hV : VC lv) (t : Tree) (G : List Nat) (a : Option Addr) (c left bl b4 b5 : Nat) (w : World) (hw : VFr w lv bl b4 b5 t G a c left) :
    Calls Try.prog 98 [.slice a t.kids.length c, .func (.func 99) [].toArray [pp b4, pp b5].toArray].toArray w (NPost bl w (Fm.validL lv t.kids left)) := by
  have hN := fun w (hw : VFr w lv bl b4 b5 t G a c left) => indexV_c lv hlv hV t G a c left bl b4 b5 w hw
  refine enter Try.func98 rfl Try.ntmps98 rfl (St.init1 hw.hl) ?_
  refine WC.seq ?_
  refine WC.region ?_
  refine WL.step ?_
  refine WL.assign rfl rfl ?_
  refine WL.nil ?_
  refine WQ.then_normal ?_
  refine WC.seq ?_
  rcases hv : Fm.validL lv t.kids left with _ | l
  · skip
    rw [hv] at hN
    refine WC.region ?_
    refine WL.step ?_
    refine WL.move rfl rfl ?_
    refine WL.step ?_
    refine WL.move rfl rfl ?_
    refine WL.step ?_
    refine WL.call1C (β := Nat × List Value) (res := fun x => .int .i64 (x.1 : Int)) (c1 := fun x => pt bl x.2 3) F.fun110 rfl rfl (by repeat (first | exact Rem.here | apply Rem.there)) (fun w hS => hN w ⟨hS.oldT hw.rd (rdT_out hw.rd hw.nf), hw.nf, hw.le, hS.heap (by repeat (first | exact List.Mem.head _ | apply List.Mem.tail)), hS.oldh hw.h4 (by simp [hw.n4]), hS.oldh hw.h5 (by simp [hw.n5]), hw.n4, hw.n5⟩) (fun x => ?_)
    refine WL.step ?_
    refine WL.geI rfl rfl rfl ?_
    refine WL.step ?_
    refine WL.assign rfl rfl ?_
    refine WL.nil ?_
    refine WQ.then_normal ?_
    refine WC.ret ?_
    refine WQ.ret (rs := [.tmp 4]) rfl (.tmp rfl .nil) (fun w hS => ?_)
    exact ⟨x.2, by simp [tup], hS⟩
  · skip
    rw [hv] at hN
    refine WC.region ?_
    refine WL.step ?_
    refine WL.move rfl rfl ?_
    refine WL.step ?_
    refine WL.move rfl rfl ?_
    refine WL.step ?_
    refine WL.call1S (v := .int .i64 (-1)) (bs' := [.int .i64 (l : Int)]) F.fun110 rfl rfl (by repeat (first | exact Rem.here | apply Rem.there)) (fun w hS => hN w ⟨hS.oldT hw.rd (rdT_out hw.rd hw.nf), hw.nf, hw.le, hS.heap (by repeat (first | exact List.Mem.head _ | apply List.Mem.tail)), hS.oldh hw.h4 (by simp [hw.n4]), hS.oldh hw.h5 (by simp [hw.n5]), hw.n4, hw.n5⟩) ?_
    refine WL.step ?_
    refine WL.geI rfl rfl rfl ?_
    refine WL.step ?_
    refine WL.assign rfl rfl ?_
    refine WL.nil ?_
    refine WQ.then_normal ?_
    refine WC.ret ?_
    refine WQ.ret (rs := [.tmp 4]) rfl (.tmp rfl .nil) (fun w hS => ?_)
    exact ⟨rfl, hS⟩

theorem validT_none {lv left : Nat} {t : Tree} (h : (decide (lv = 0) || decide (left = 0) || !Fm.rightB t) = true) : Fm.validT lv t left = none := by
  obtain ⟨op, name, kids⟩ := t
  simp only [Bool.or_eq_true, decide_eq_true_eq, Bool.not_eq_true'] at h
  simp only [Fm.validT]
  rw [if_pos]
  rcases h with (h | h) | h
  · exact .inl h
  · exact .inr (.inl h)
  · exact .inr (.inr h)
theorem validT_some {lv left : Nat} {t : Tree} (h : (decide (lv = 0) || decide (left = 0) || !Fm.rightB t) = false) : ∃ lv' left', lv = lv' + 1 ∧ left = left' + 1 ∧ Fm.validT lv t left = Fm.validL lv' t.kids left' := by
  obtain ⟨op, name, kids⟩ := t
  simp only [Bool.or_eq_false_iff, decide_eq_false_iff_not, Bool.not_eq_false'] at h
  refine ⟨lv - 1, left - 1, by omega, by omega, ?_⟩
  simp only [Fm.validT]
  rw [if_neg]
  · rfl
  · rintro (h' | h' | h')
    · exact h.1.1 h'
    · exact h.1.2 h'
    · rw [h.2] at h'; cases h'

theorem valid_step (lv : Nat) (hlv : lv ≤ 1000) (hV : ∀ lv', lv = lv' + 1 → VC lv') : VC lv := by
  intro t G a c left bl w hr hbl hle hp
  refine enter Try.func71 rfl Try.ntmps71 rfl (St.init1 hp) ?_
  refine WC.seq ?_
  refine WC.region ?_
  refine WL.step ?_
  refine WL.boxN rfl rfl (fun b3 => ?_)
  refine WL.step ?_
  refine WL.box1 rfl rfl rfl (fun b4 => ?_)
  refine WL.step ?_
  refine WL.box1 rfl rfl rfl (fun b5 => ?_)
  refine WL.step ?_
  refine WL.assign rfl rfl ?_
  refine WL.nil ?_
  refine WQ.then_normal ?_
  refine WC.seq ?_
  refine WC.region ?_
  refine WL.step ?_
  refine WL.loadP F.one115 rfl rfl (by repeat (first | exact List.Mem.head _ | apply List.Mem.tail)) rfl ?_
  refine WL.step ?_
  refine WL.nilCheck rfl rfl ?_
  refine WL.step ?_
  refine WL.loadP F.one3 rfl rfl (by repeat (first | exact List.Mem.head _ | apply List.Mem.tail)) rfl ?_
  refine WL.step ?_
  refine WL.sub rfl rfl rfl ⟨by omega, by omega⟩ ?_
  refine WL.step ?_
  refine WL.nilCheck rfl rfl ?_
  refine WL.step ?_
  refine WL.store1 F.one3 rfl rfl rfl (by repeat (first | exact Upd.here | apply Upd.there)) (by repeat constructor) ?_
  refine WL.nil ?_
  refine WQ.then_normal ?_
  refine WC.seq ?_
  refine WC.seq ?_
  refine WC.cutF [(24, .bool (decide (lv = 0) || decide (left = 0) || !Fm.rightB t)), (3, pp b3), (4, pp b4), (5, pp b5)] (fun Q' hQ => ?_) ?_
  · skip
    refine WC.region ?_
    refine WL.step ?_
    refine WL.loadP F.one3 rfl rfl (by repeat (first | exact List.Mem.head _ | apply List.Mem.tail)) rfl ?_
    refine WL.step ?_
    refine WL.eqI rfl rfl rfl ?_
    refine WL.step ?_
    refine WL.move rfl rfl ?_
    refine WA.splitB (i := 14) rfl (fun h14 => ?_) (fun h14 => ?_)
    · skip
      refine WL.step (WL.guardF rfl rfl rfl rfl rfl rfl ?_)
      refine WL.step (WL.guardF rfl rfl rfl rfl rfl rfl ?_)
      refine WL.step (WL.guardF rfl rfl rfl rfl rfl rfl ?_)
      refine WL.step (WL.guardF rfl rfl rfl rfl rfl rfl ?_)
      refine WL.step ?_
      refine WL.pickT rfl rfl rfl ?_
      refine WL.step ?_
      refine WL.move rfl rfl ?_
      refine WL.step (WL.guardF rfl rfl rfl rfl rfl rfl ?_)
      refine WL.step (WL.guardF rfl rfl rfl rfl rfl rfl ?_)
      refine WL.step (WL.guardF rfl rfl rfl rfl rfl rfl ?_)
      refine WL.step ?_
      refine WL.pickT rfl rfl rfl ?_
      refine WL.nil ?_
      refine WQ.byCut hQ (subF_bool ?_ ⟨rfl, rfl, rfl, trivial⟩ rfl)
      have e13 : ((lv : Int) == 0) = decide (lv = 0) := by rw [Bool.eq_iff_iff]; simp
      have e18 : decide ((left : Int) - 1 < 0) = decide (left = 0) := by rw [Bool.eq_iff_iff]; simp; omega
      simp_all
    · skip
      refine WL.step (WL.guardT rfl rfl rfl ?_)
      refine WL.loadP F.one115 rfl rfl (by repeat (first | exact List.Mem.head _ | apply List.Mem.tail)) rfl ?_
      refine WL.step (WL.guardT rfl rfl rfl ?_)
      refine WL.nilCheck rfl rfl ?_
      refine WL.step (WL.guardT rfl rfl rfl ?_)
      refine WL.loadP F.one3 rfl rfl (by repeat (first | exact List.Mem.head _ | apply List.Mem.tail)) rfl ?_
      refine WL.step (WL.guardT rfl rfl rfl ?_)
      refine WL.ltI rfl rfl rfl ?_
      refine WL.step ?_
      refine WL.pickF rfl rfl rfl ?_
      refine WL.step ?_
      refine WL.move rfl rfl ?_
      refine WA.splitB (i := 20) rfl (fun h20 => ?_) (fun h20 => ?_)
      · skip
        refine WL.step (WL.guardF rfl rfl rfl rfl rfl rfl ?_)
        refine WL.step (WL.guardF rfl rfl rfl rfl rfl rfl ?_)
        refine WL.step (WL.guardF rfl rfl rfl rfl rfl rfl ?_)
        refine WL.step ?_
        refine WL.pickT rfl rfl rfl ?_
        refine WL.nil ?_
        refine WQ.byCut hQ (subF_bool ?_ ⟨rfl, rfl, rfl, trivial⟩ rfl)
        have e13 : ((lv : Int) == 0) = decide (lv = 0) := by rw [Bool.eq_iff_iff]; simp
        have e18 : decide ((left : Int) - 1 < 0) = decide (left = 0) := by rw [Bool.eq_iff_iff]; simp; omega
        simp_all
      · skip
        refine WL.step (WL.guardT rfl rfl rfl ?_)
        refine WL.loadW F.agg25 rfl rfl (by repeat (first | exact List.Mem.head _ | apply List.Mem.tail)) rfl ?_
        refine WL.step (WL.guardT rfl rfl rfl ?_)
        refine WL.callV F.fun97 rfl rfl (fun w _ => right_c t a c w) ?_
        refine WL.step (WL.guardT rfl rfl rfl ?_)
        refine WL.not rfl rfl ?_
        refine WL.step ?_
        refine WL.pickF rfl rfl rfl ?_
        refine WL.nil ?_
        refine WQ.byCut hQ (subF_bool ?_ ⟨rfl, rfl, rfl, trivial⟩ rfl)
        have e13 : ((lv : Int) == 0) = decide (lv = 0) := by rw [Bool.eq_iff_iff]; simp
        have e18 : decide ((left : Int) - 1 < 0) = decide (left = 0) := by rw [Bool.eq_iff_iff]; simp; omega
        simp_all
  refine WQ.then_normal ?_
  refine WC.cond rfl (fun h24 => ?_) (fun h24 => ?_)
  · skip
    have hval := validT_none h24
    refine WC.seq ?_
    refine WC.region ?_
    refine WL.step ?_
    refine WL.assign rfl rfl ?_
    refine WL.nil ?_
    refine WQ.then_normal ?_
    refine WC.ret ?_
    refine WQ.then_ret ?_
    refine WQ.ret (rs := [.tmp 6]) rfl (.tmp rfl .nil) (fun w hS => ?_)
    rw [hval]
    exact ⟨_, rfl, (St.pick hS (c := pt bl [.int .i64 ((left : Int) - 1)] 3) (by repeat (first | exact Rem.here | apply Rem.there))).one1⟩
  · skip
    obtain ⟨lv, left, rfl, rfl, hval⟩ := validT_some h24
    have e : (((left + 1 : Nat) : Int) - 1) = (left : Int) := by omega
    rw [e]
    have hC := fun w (hw : VFr w lv bl b4 b5 t G a c left) => containsV_c lv (by omega) (hV lv rfl) t G a c left bl b4 b5 w hw
    refine WC.skip ?_
    refine WQ.then_normal ?_
    refine WC.seq ?_
    rcases hvl : Fm.validL lv t.kids left with _ | l
    · skip
      rw [hvl] at hC hval
      refine WC.region ?_
      refine WL.step ?_
      refine WL.fieldAddr0 F.fld25_2 rfl rfl ?_
      refine WL.step ?_
      refine WL.loadP F.one23 rfl rfl (by repeat (first | exact List.Mem.head _ | apply List.Mem.tail)) rfl ?_
      refine WL.step ?_
      refine WL.makeFunc rfl rfl rfl ?_
      refine WL.step ?_
      refine WL.call1B (β := List Value) (v := .bool true) (c1 := fun cs => pt bl cs 3) F.fun98 rfl rfl (by repeat (first | exact Rem.here | apply Rem.there)) (fun w hS => hC w ⟨hS.oldT hr (rdT_out hr hbl), hbl, by omega, hS.heap (by repeat (first | exact List.Mem.head _ | apply List.Mem.tail)), hS.heap (by repeat (first | exact List.Mem.head _ | apply List.Mem.tail)), hS.heap (by repeat (first | exact List.Mem.head _ | apply List.Mem.tail)), St.ne2 (St.pick (St.pick hS (c := pt bl [.int .i64 (left : Int)] 3) (by repeat (first | exact Rem.here | apply Rem.there))) (c := pt b4 [.int .i64 ((lv + 1 : Nat) : Int)] 3) (by repeat (first | exact Rem.here | apply Rem.there))), St.ne2 (St.pick (St.pick hS (c := pt bl [.int .i64 (left : Int)] 3) (by repeat (first | exact Rem.here | apply Rem.there))) (c := pt b5 [pp bl] 115) (by repeat (first | exact Rem.here | apply Rem.there)))⟩) (fun cs28 => ?_)
      refine WL.step ?_
      refine WL.not rfl rfl ?_
      refine WL.step ?_
      refine WL.assign rfl rfl ?_
      refine WL.nil ?_
      refine WQ.then_normal ?_
      refine WC.ret ?_
      refine WQ.ret (rs := [.tmp 6]) rfl (.tmp rfl .nil) (fun w hS => ?_)
      rw [hval]
      exact ⟨cs28, rfl, (St.pick hS (c := pt bl cs28 3) (by repeat (first | exact Rem.here | apply Rem.there))).one1⟩
    · skip
      rw [hvl] at hC hval
      refine WC.region ?_
      refine WL.step ?_
      refine WL.fieldAddr0 F.fld25_2 rfl rfl ?_
      refine WL.step ?_
      refine WL.loadP F.one23 rfl rfl (by repeat (first | exact List.Mem.head _ | apply List.Mem.tail)) rfl ?_
      refine WL.step ?_
      refine WL.makeFunc rfl rfl rfl ?_
      refine WL.step ?_
      refine WL.call1S (v := .bool false) (bs' := [.int .i64 (l : Int)]) F.fun98 rfl rfl (by repeat (first | exact Rem.here | apply Rem.there)) (fun w hS => hC w ⟨hS.oldT hr (rdT_out hr hbl), hbl, by omega, hS.heap (by repeat (first | exact List.Mem.head _ | apply List.Mem.tail)), hS.heap (by repeat (first | exact List.Mem.head _ | apply List.Mem.tail)), hS.heap (by repeat (first | exact List.Mem.head _ | apply List.Mem.tail)), St.ne2 (St.pick (St.pick hS (c := pt bl [.int .i64 (left : Int)] 3) (by repeat (first | exact Rem.here | apply Rem.there))) (c := pt b4 [.int .i64 ((lv + 1 : Nat) : Int)] 3) (by repeat (first | exact Rem.here | apply Rem.there))), St.ne2 (St.pick (St.pick hS (c := pt bl [.int .i64 (left : Int)] 3) (by repeat (first | exact Rem.here | apply Rem.there))) (c := pt b5 [pp bl] 115) (by repeat (first | exact Rem.here | apply Rem.there)))⟩) ?_
      refine WL.step ?_
      refine WL.not rfl rfl ?_
      refine WL.step ?_
      refine WL.assign rfl rfl ?_
      refine WL.nil ?_
      refine WQ.then_normal ?_
      refine WC.ret ?_
      refine WQ.ret (rs := [.tmp 6]) rfl (.tmp rfl .nil) (fun w hS => ?_)
      rw [hval]
      exact ⟨rfl, (St.pick hS (c := pt bl [.int .i64 (l : Int)] 3) (by repeat (first | exact Rem.here | apply Rem.there))).one1⟩

theorem valid_c : ∀ lv : Nat, lv ≤ 1000 → VC lv
  | 0, h => valid_step 0 h (fun _ e => by omega)
  | lv + 1, h => valid_step (lv + 1) h (fun lv' e => by
    have : lv' = lv := by omega
    subst this
    exact valid_c lv' (by omega))

theorem Valid_c (t : Tree) (G : List Nat) (a : Option Addr) (c : Nat) (w : World) (hr : rdT w t G (tv t a c)) : Pure Try.prog 30 [tv t a c] w (.bool (Fm.validB t)) := by
  refine enter Try.func30 rfl Try.ntmps30 rfl (St.init _) ?_
  refine WC.seq ?_
  refine WC.region ?_
  refine WL.step ?_
  refine WL.boxN rfl rfl (fun b1 => ?_)
  refine WL.step ?_
  refine WL.assign rfl rfl ?_
  refine WL.nil ?_
  refine WQ.then_normal ?_
  refine WC.seq ?_
  refine WC.region ?_
  refine WL.step ?_
  refine WL.alloc F.zero3 rfl (fun b3 => ?_)
  refine WL.step ?_
  refine WL.store1 F.one3 rfl rfl rfl (by repeat (first | exact Upd.here | apply Upd.there)) (by repeat constructor) ?_
  refine WL.nil ?_
  refine WQ.then_normal ?_
  refine WC.seq ?_
  rcases hv : Fm.validT 64 t 1000 with _ | l
  · skip
    have hN := fun w hr hbl hp => valid_c 64 (by omega) t G a c 1000 b3 w hr hbl (Nat.le_refl _) hp
    rw [hv] at hN
    refine WC.region ?_
    refine WL.step ?_
    refine WL.loadW F.agg25 rfl rfl (by repeat (first | exact List.Mem.head _ | apply List.Mem.tail)) rfl ?_
    refine WA.know (φ := ∀ k ∈ G, k ≠ b3) (fun w' hS k hk e => ?_) (fun hne => ?_)
    · have h1 := (hS.bnd (pt b3 [.int .i64 1000] 3) (by repeat (first | exact List.Mem.head _ | apply List.Mem.tail)) b3 rfl).2
      have h2 := rdT_lt hr k hk
      subst e
      cases h1 h2
    refine WL.step ?_
    refine WL.call1B (β := List Value) (v := .bool false) (c1 := fun cs => pt b3 cs 3) F.fun71 rfl rfl (by repeat (first | exact Rem.here | apply Rem.there)) (fun w hS => hN w (hS.oldT hr (fun k hk => ⟨rdT_lt hr k hk, by simp⟩)) (fun hb => hne _ hb rfl) (hS.heap (by repeat (first | exact List.Mem.head _ | apply List.Mem.tail)))) (fun cs5 => ?_)
    refine WL.step ?_
    refine WL.assign rfl rfl ?_
    refine WL.nil ?_
    refine WQ.then_normal ?_
    refine WC.ret ?_
    exact WQ.ret (rs := [.tmp 2]) rfl (.tmp rfl .nil) (fun w hS => ⟨by simp [tup, Fm.validB, hv], hS.drop.drop⟩)
  · skip
    have hN := fun w hr hbl hp => valid_c 64 (by omega) t G a c 1000 b3 w hr hbl (Nat.le_refl _) hp
    rw [hv] at hN
    refine WC.region ?_
    refine WL.step ?_
    refine WL.loadW F.agg25 rfl rfl (by repeat (first | exact List.Mem.head _ | apply List.Mem.tail)) rfl ?_
    refine WA.know (φ := ∀ k ∈ G, k ≠ b3) (fun w' hS k hk e => ?_) (fun hne => ?_)
    · have h1 := (hS.bnd (pt b3 [.int .i64 1000] 3) (by repeat (first | exact List.Mem.head _ | apply List.Mem.tail)) b3 rfl).2
      have h2 := rdT_lt hr k hk
      subst e
      cases h1 h2
    refine WL.step ?_
    refine WL.call1S (v := .bool true) (bs' := [.int .i64 (l : Int)]) F.fun71 rfl rfl (by repeat (first | exact Rem.here | apply Rem.there)) (fun w hS => hN w (hS.oldT hr (fun k hk => ⟨rdT_lt hr k hk, by simp⟩)) (fun hb => hne _ hb rfl) (hS.heap (by repeat (first | exact List.Mem.head _ | apply List.Mem.tail)))) ?_
    refine WL.step ?_
    refine WL.assign rfl rfl ?_
    refine WL.nil ?_
    refine WQ.then_normal ?_
    refine WC.ret ?_
    exact WQ.ret (rs := [.tmp 2]) rfl (.tmp rfl .nil) (fun w hS => ⟨by simp [tup, Fm.validB, hv], hS.drop.drop⟩)

end Go.Proofs.Ytbippghgkbapnaa
