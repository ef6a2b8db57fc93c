import Derived.Test.YtbippghgkbapnaaSpec
import Derived.Test.YtbippghgkbapnaaFacts
namespace Go.Proofs.Ytbippghgkbapnaa
open Go Go.Eng Go.Proofs
theorem node_c (op : Int) (s : Option Addr) (n c : Nat) (w : World) : Pure Try.prog 88 [.int .u8 op, .slice s n c] w (.agg #[.int .u8 op, .string (str []), .slice s n c]) := by
  refine enter Try.func88 rfl Try.ntmps88 rfl (St.init _) ?_
  refine WC.seq ?_
  refine WC.region ?_
  refine WL.step ?_
  refine WL.alloc F.zero25 rfl (fun b4 => ?_)
  refine WL.nil ?_
  refine WQ.then_normal ?_
  refine WC.seq ?_
  refine WC.region ?_
  refine WL.step ?_
  refine WL.move rfl rfl ?_
  refine WL.step ?_
  refine WL.move rfl rfl ?_
  refine WL.step ?_
  refine WL.build F.stT25 rfl (by repeat (first | exact Built.nil | apply Built.one rfl rfl (by repeat constructor) | apply Built.agg rfl rfl (by repeat constructor))) rfl ?_
  refine WL.step ?_
  refine WL.storeN F.agg25 rfl rfl rfl (by simp [Value.oneCell']) (by repeat (first | exact Upd.here | apply Upd.there)) (by repeat constructor) ?_
  refine WL.nil ?_
  refine WQ.then_normal ?_
  refine WC.ret ?_
  exact WQ.ret (rs := [.cell 4 25]) rfl (.cellN F.agg25 rfl (by repeat (first | exact List.Mem.head _ | apply List.Mem.tail)) rfl .nil) (fun w hS => ⟨rfl, hS.drop⟩)

theorem u8_le {a b : UInt8} : a ≤ b ↔ (a.toNat : Int) ≤ (b.toNat : Int) := by rw [UInt8.le_iff_toNat_le]; omega
theorem u8_eq {a b : UInt8} : a = b ↔ (a.toNat : Int) = (b.toNat : Int) := by rw [← UInt8.toNat_inj]; omega
theorem inWordB_int (c : UInt8) : Fm.inWordB c = ((c.toNat : Int) == 95 || (decide ((48 : Int) ≤ c.toNat) && decide ((c.toNat : Int) ≤ 57)) || (decide ((97 : Int) ≤ c.toNat) && decide ((c.toNat : Int) ≤ 122)) || (decide ((65 : Int) ≤ c.toNat) && decide ((c.toNat : Int) ≤ 90))) := by
  unfold Fm.inWordB
  rw [Bool.eq_iff_iff]
  simp [u8_le, u8_eq]

theorem inWord_c (c : UInt8) (w : World) : Pure Try.prog 84 [.int .u8 c.toNat] w (.bool (Fm.inWordB c)) := by
  refine enter Try.func84 rfl Try.ntmps84 rfl (St.init _) ?_
  refine WC.seq ?_
  refine WC.region ?_
  refine WL.step ?_
  refine WL.assign rfl rfl ?_
  refine WL.nil ?_
  refine WQ.then_normal ?_
  refine WC.seq ?_
  refine WC.region ?_
  refine WL.step ?_
  refine WL.move rfl rfl ?_
  refine WL.step ?_
  refine WL.eqI rfl rfl rfl ?_
  refine WL.step ?_
  refine WL.move rfl rfl ?_
  refine WA.splitB (i := 5) rfl (fun g5 => ?_) (fun g5 => ?_)
  · skip
    refine WL.step (WL.guardF rfl rfl rfl rfl rfl rfl ?_)
    refine WL.step (WL.guardF rfl rfl rfl rfl rfl rfl ?_)
    refine WL.step (WL.guardF rfl rfl rfl rfl rfl rfl ?_)
    refine WL.step (WL.guardU rfl rfl rfl rfl rfl ?_)
    refine WL.step (WL.guardU rfl rfl rfl rfl rfl ?_)
    refine WL.step (WL.guardF rfl rfl rfl rfl rfl rfl ?_)
    refine WL.step ?_
    refine WL.pickT rfl rfl rfl ?_
    refine WL.step ?_
    refine WL.move rfl rfl ?_
    refine WL.step (WL.guardF rfl rfl rfl rfl rfl rfl ?_)
    refine WL.step (WL.guardF rfl rfl rfl rfl rfl rfl ?_)
    refine WL.step (WL.guardF rfl rfl rfl rfl rfl rfl ?_)
    refine WL.step (WL.guardU rfl rfl rfl rfl rfl ?_)
    refine WL.step (WL.guardU rfl rfl rfl rfl rfl ?_)
    refine WL.step (WL.guardF rfl rfl rfl rfl rfl rfl ?_)
    refine WL.step ?_
    refine WL.pickT rfl rfl rfl ?_
    refine WL.step ?_
    refine WL.move rfl rfl ?_
    refine WL.step (WL.guardF rfl rfl rfl rfl rfl rfl ?_)
    refine WL.step (WL.guardF rfl rfl rfl rfl rfl rfl ?_)
    refine WL.step (WL.guardF rfl rfl rfl rfl rfl rfl ?_)
    refine WL.step (WL.guardU rfl rfl rfl rfl rfl ?_)
    refine WL.step (WL.guardU rfl rfl rfl rfl rfl ?_)
    refine WL.step (WL.guardF rfl rfl rfl rfl rfl rfl ?_)
    refine WL.step ?_
    refine WL.pickT rfl rfl rfl ?_
    refine WL.step ?_
    refine WL.assign rfl rfl ?_
    refine WL.nil ?_
    refine WQ.then_normal ?_
    refine WC.ret ?_
    exact WQ.ret (rs := [.tmp 2]) rfl (.tmp rfl .nil) (fun w hS => ⟨by simp [tup, inWordB_int, *], hS⟩)
  · skip
    refine WL.step (WL.guardT rfl rfl rfl ?_)
    refine WL.move rfl rfl ?_
    refine WL.step (WL.guardT rfl rfl rfl ?_)
    refine WL.geI rfl rfl rfl ?_
    refine WL.step (WL.guardT rfl rfl rfl ?_)
    refine WL.move rfl rfl ?_
    refine WA.splitB (i := 8) rfl (fun g8 => ?_) (fun g8 => ?_)
    · skip
      refine WL.step (WL.guardT rfl rfl rfl ?_)
      refine WL.move rfl rfl ?_
      refine WL.step (WL.guardT rfl rfl rfl ?_)
      refine WL.leI rfl rfl rfl ?_
      refine WL.step (WL.guardT rfl rfl rfl ?_)
      refine WL.pickT rfl rfl rfl ?_
      refine WL.step ?_
      refine WL.pickF rfl rfl rfl ?_
      refine WL.step ?_
      refine WL.move rfl rfl ?_
      refine WA.splitB (i := 13) rfl (fun g13 => ?_) (fun g13 => ?_)
      · skip
        refine WL.step (WL.guardF rfl rfl rfl rfl rfl rfl ?_)
        refine WL.step (WL.guardF rfl rfl rfl rfl rfl rfl ?_)
        refine WL.step (WL.guardF rfl rfl rfl rfl rfl rfl ?_)
        refine WL.step (WL.guardU rfl rfl rfl rfl rfl ?_)
        refine WL.step (WL.guardU rfl rfl rfl rfl rfl ?_)
        refine WL.step (WL.guardF rfl rfl rfl rfl rfl rfl ?_)
        refine WL.step ?_
        refine WL.pickT rfl rfl rfl ?_
        refine WL.step ?_
        refine WL.move rfl rfl ?_
        refine WL.step (WL.guardF rfl rfl rfl rfl rfl rfl ?_)
        refine WL.step (WL.guardF rfl rfl rfl rfl rfl rfl ?_)
        refine WL.step (WL.guardF rfl rfl rfl rfl rfl rfl ?_)
        refine WL.step (WL.guardU rfl rfl rfl rfl rfl ?_)
        refine WL.step (WL.guardU rfl rfl rfl rfl rfl ?_)
        refine WL.step (WL.guardF rfl rfl rfl rfl rfl rfl ?_)
        refine WL.step ?_
        refine WL.pickT rfl rfl rfl ?_
        refine WL.step ?_
        refine WL.assign rfl rfl ?_
        refine WL.nil ?_
        refine WQ.then_normal ?_
        refine WC.ret ?_
        exact WQ.ret (rs := [.tmp 2]) rfl (.tmp rfl .nil) (fun w hS => ⟨by simp [tup, inWordB_int, *], hS⟩)
      · skip
        refine WL.step (WL.guardT rfl rfl rfl ?_)
        refine WL.move rfl rfl ?_
        refine WL.step (WL.guardT rfl rfl rfl ?_)
        refine WL.geI rfl rfl rfl ?_
        refine WL.step (WL.guardT rfl rfl rfl ?_)
        refine WL.move rfl rfl ?_
        refine WA.splitB (i := 16) rfl (fun g16 => ?_) (fun g16 => ?_)
        · skip
          refine WL.step (WL.guardT rfl rfl rfl ?_)
          refine WL.move rfl rfl ?_
          refine WL.step (WL.guardT rfl rfl rfl ?_)
          refine WL.leI rfl rfl rfl ?_
          refine WL.step (WL.guardT rfl rfl rfl ?_)
          refine WL.pickT rfl rfl rfl ?_
          refine WL.step ?_
          refine WL.pickF rfl rfl rfl ?_
          refine WL.step ?_
          refine WL.move rfl rfl ?_
          refine WA.splitB (i := 21) rfl (fun g21 => ?_) (fun g21 => ?_)
          · skip
            refine WL.step (WL.guardF rfl rfl rfl rfl rfl rfl ?_)
            refine WL.step (WL.guardF rfl rfl rfl rfl rfl rfl ?_)
            refine WL.step (WL.guardF rfl rfl rfl rfl rfl rfl ?_)
            refine WL.step (WL.guardU rfl rfl rfl rfl rfl ?_)
            refine WL.step (WL.guardU rfl rfl rfl rfl rfl ?_)
            refine WL.step (WL.guardF rfl rfl rfl rfl rfl rfl ?_)
            refine WL.step ?_
            refine WL.pickT rfl rfl rfl ?_
            refine WL.step ?_
            refine WL.assign rfl rfl ?_
            refine WL.nil ?_
            refine WQ.then_normal ?_
            refine WC.ret ?_
            exact WQ.ret (rs := [.tmp 2]) rfl (.tmp rfl .nil) (fun w hS => ⟨by simp [tup, inWordB_int, *], hS⟩)
          · skip
            refine WL.step (WL.guardT rfl rfl rfl ?_)
            refine WL.move rfl rfl ?_
            refine WL.step (WL.guardT rfl rfl rfl ?_)
            refine WL.geI rfl rfl rfl ?_
            refine WL.step (WL.guardT rfl rfl rfl ?_)
            refine WL.move rfl rfl ?_
            refine WA.splitB (i := 24) rfl (fun g24 => ?_) (fun g24 => ?_)
            · skip
              refine WL.step (WL.guardT rfl rfl rfl ?_)
              refine WL.move rfl rfl ?_
              refine WL.step (WL.guardT rfl rfl rfl ?_)
              refine WL.leI rfl rfl rfl ?_
              refine WL.step (WL.guardT rfl rfl rfl ?_)
              refine WL.pickT rfl rfl rfl ?_
              refine WL.step ?_
              refine WL.pickF rfl rfl rfl ?_
              refine WL.step ?_
              refine WL.assign rfl rfl ?_
              refine WL.nil ?_
              refine WQ.then_normal ?_
              refine WC.ret ?_
              exact WQ.ret (rs := [.tmp 2]) rfl (.tmp rfl .nil) (fun w hS => ⟨by simp [tup, inWordB_int, *], hS⟩)
            · skip
              refine WL.step (WL.guardF rfl rfl rfl rfl rfl rfl ?_)
              refine WL.step (WL.guardF rfl rfl rfl rfl rfl rfl ?_)
              refine WL.step (WL.guardT rfl rfl rfl ?_)
              refine WL.pickF rfl rfl rfl ?_
              refine WL.step ?_
              refine WL.pickF rfl rfl rfl ?_
              refine WL.step ?_
              refine WL.assign rfl rfl ?_
              refine WL.nil ?_
              refine WQ.then_normal ?_
              refine WC.ret ?_
              exact WQ.ret (rs := [.tmp 2]) rfl (.tmp rfl .nil) (fun w hS => ⟨by simp [tup, inWordB_int, *], hS⟩)
        · skip
          refine WL.step (WL.guardF rfl rfl rfl rfl rfl rfl ?_)
          refine WL.step (WL.guardF rfl rfl rfl rfl rfl rfl ?_)
          refine WL.step (WL.guardT rfl rfl rfl ?_)
          refine WL.pickF rfl rfl rfl ?_
          refine WL.step ?_
          refine WL.pickF rfl rfl rfl ?_
          refine WL.step ?_
          refine WL.move rfl rfl ?_
          refine WL.step (WL.guardT rfl rfl rfl ?_)
          refine WL.move rfl rfl ?_
          refine WL.step (WL.guardT rfl rfl rfl ?_)
          refine WL.geI rfl rfl rfl ?_
          refine WL.step (WL.guardT rfl rfl rfl ?_)
          refine WL.move rfl rfl ?_
          refine WA.splitB (i := 24) rfl (fun g24 => ?_) (fun g24 => ?_)
          · skip
            refine WL.step (WL.guardT rfl rfl rfl ?_)
            refine WL.move rfl rfl ?_
            refine WL.step (WL.guardT rfl rfl rfl ?_)
            refine WL.leI rfl rfl rfl ?_
            refine WL.step (WL.guardT rfl rfl rfl ?_)
            refine WL.pickT rfl rfl rfl ?_
            refine WL.step ?_
            refine WL.pickF rfl rfl rfl ?_
            refine WL.step ?_
            refine WL.assign rfl rfl ?_
            refine WL.nil ?_
            refine WQ.then_normal ?_
            refine WC.ret ?_
            exact WQ.ret (rs := [.tmp 2]) rfl (.tmp rfl .nil) (fun w hS => ⟨by simp [tup, inWordB_int, *], hS⟩)
          · skip
            refine WL.step (WL.guardF rfl rfl rfl rfl rfl rfl ?_)
            refine WL.step (WL.guardF rfl rfl rfl rfl rfl rfl ?_)
            refine WL.step (WL.guardT rfl rfl rfl ?_)
            refine WL.pickF rfl rfl rfl ?_
            refine WL.step ?_
            refine WL.pickF rfl rfl rfl ?_
            refine WL.step ?_
            refine WL.assign rfl rfl ?_
            refine WL.nil ?_
            refine WQ.then_normal ?_
            refine WC.ret ?_
            exact WQ.ret (rs := [.tmp 2]) rfl (.tmp rfl .nil) (fun w hS => ⟨by simp [tup, inWordB_int, *], hS⟩)
    · skip
      refine WL.step (WL.guardF rfl rfl rfl rfl rfl rfl ?_)
      refine WL.step (WL.guardF rfl rfl rfl rfl rfl rfl ?_)
      refine WL.step (WL.guardT rfl rfl rfl ?_)
      refine WL.pickF rfl rfl rfl ?_
      refine WL.step ?_
      refine WL.pickF rfl rfl rfl ?_
      refine WL.step ?_
      refine WL.move rfl rfl ?_
      refine WL.step (WL.guardT rfl rfl rfl ?_)
      refine WL.move rfl rfl ?_
      refine WL.step (WL.guardT rfl rfl rfl ?_)
      refine WL.geI rfl rfl rfl ?_
      refine WL.step (WL.guardT rfl rfl rfl ?_)
      refine WL.move rfl rfl ?_
      refine WA.splitB (i := 16) rfl (fun g16 => ?_) (fun g16 => ?_)
      · skip
        refine WL.step (WL.guardT rfl rfl rfl ?_)
        refine WL.move rfl rfl ?_
        refine WL.step (WL.guardT rfl rfl rfl ?_)
        refine WL.leI rfl rfl rfl ?_
        refine WL.step (WL.guardT rfl rfl rfl ?_)
        refine WL.pickT rfl rfl rfl ?_
        refine WL.step ?_
        refine WL.pickF rfl rfl rfl ?_
        refine WL.step ?_
        refine WL.move rfl rfl ?_
        refine WA.splitB (i := 21) rfl (fun g21 => ?_) (fun g21 => ?_)
        · skip
          refine WL.step (WL.guardF rfl rfl rfl rfl rfl rfl ?_)
          refine WL.step (WL.guardF rfl rfl rfl rfl rfl rfl ?_)
          refine WL.step (WL.guardF rfl rfl rfl rfl rfl rfl ?_)
          refine WL.step (WL.guardU rfl rfl rfl rfl rfl ?_)
          refine WL.step (WL.guardU rfl rfl rfl rfl rfl ?_)
          refine WL.step (WL.guardF rfl rfl rfl rfl rfl rfl ?_)
          refine WL.step ?_
          refine WL.pickT rfl rfl rfl ?_
          refine WL.step ?_
          refine WL.assign rfl rfl ?_
          refine WL.nil ?_
          refine WQ.then_normal ?_
          refine WC.ret ?_
          exact WQ.ret (rs := [.tmp 2]) rfl (.tmp rfl .nil) (fun w hS => ⟨by simp [tup, inWordB_int, *], hS⟩)
        · skip
          refine WL.step (WL.guardT rfl rfl rfl ?_)
          refine WL.move rfl rfl ?_
          refine WL.step (WL.guardT rfl rfl rfl ?_)
          refine WL.geI rfl rfl rfl ?_
          refine WL.step (WL.guardT rfl rfl rfl ?_)
          refine WL.move rfl rfl ?_
          refine WA.splitB (i := 24) rfl (fun g24 => ?_) (fun g24 => ?_)
          · skip
            refine WL.step (WL.guardT rfl rfl rfl ?_)
            refine WL.move rfl rfl ?_
            refine WL.step (WL.guardT rfl rfl rfl ?_)
            refine WL.leI rfl rfl rfl ?_
            refine WL.step (WL.guardT rfl rfl rfl ?_)
            refine WL.pickT rfl rfl rfl ?_
            refine WL.step ?_
            refine WL.pickF rfl rfl rfl ?_
            refine WL.step ?_
            refine WL.assign rfl rfl ?_
            refine WL.nil ?_
            refine WQ.then_normal ?_
            refine WC.ret ?_
            exact WQ.ret (rs := [.tmp 2]) rfl (.tmp rfl .nil) (fun w hS => ⟨by simp [tup, inWordB_int, *], hS⟩)
          · skip
            refine WL.step (WL.guardF rfl rfl rfl rfl rfl rfl ?_)
            refine WL.step (WL.guardF rfl rfl rfl rfl rfl rfl ?_)
            refine WL.step (WL.guardT rfl rfl rfl ?_)
            refine WL.pickF rfl rfl rfl ?_
            refine WL.step ?_
            refine WL.pickF rfl rfl rfl ?_
            refine WL.step ?_
            refine WL.assign rfl rfl ?_
            refine WL.nil ?_
            refine WQ.then_normal ?_
            refine WC.ret ?_
            exact WQ.ret (rs := [.tmp 2]) rfl (.tmp rfl .nil) (fun w hS => ⟨by simp [tup, inWordB_int, *], hS⟩)
      · skip
        refine WL.step (WL.guardF rfl rfl rfl rfl rfl rfl ?_)
        refine WL.step (WL.guardF rfl rfl rfl rfl rfl rfl ?_)
        refine WL.step (WL.guardT rfl rfl rfl ?_)
        refine WL.pickF rfl rfl rfl ?_
        refine WL.step ?_
        refine WL.pickF rfl rfl rfl ?_
        refine WL.step ?_
        refine WL.move rfl rfl ?_
        refine WL.step (WL.guardT rfl rfl rfl ?_)
        refine WL.move rfl rfl ?_
        refine WL.step (WL.guardT rfl rfl rfl ?_)
        refine WL.geI rfl rfl rfl ?_
        refine WL.step (WL.guardT rfl rfl rfl ?_)
        refine WL.move rfl rfl ?_
        refine WA.splitB (i := 24) rfl (fun g24 => ?_) (fun g24 => ?_)
        · skip
          refine WL.step (WL.guardT rfl rfl rfl ?_)
          refine WL.move rfl rfl ?_
          refine WL.step (WL.guardT rfl rfl rfl ?_)
          refine WL.leI rfl rfl rfl ?_
          refine WL.step (WL.guardT rfl rfl rfl ?_)
          refine WL.pickT rfl rfl rfl ?_
          refine WL.step ?_
          refine WL.pickF rfl rfl rfl ?_
          refine WL.step ?_
          refine WL.assign rfl rfl ?_
          refine WL.nil ?_
          refine WQ.then_normal ?_
          refine WC.ret ?_
          exact WQ.ret (rs := [.tmp 2]) rfl (.tmp rfl .nil) (fun w hS => ⟨by simp [tup, inWordB_int, *], hS⟩)
        · skip
          refine WL.step (WL.guardF rfl rfl rfl rfl rfl rfl ?_)
          refine WL.step (WL.guardF rfl rfl rfl rfl rfl rfl ?_)
          refine WL.step (WL.guardT rfl rfl rfl ?_)
          refine WL.pickF rfl rfl rfl ?_
          refine WL.step ?_
          refine WL.pickF rfl rfl rfl ?_
          refine WL.step ?_
          refine WL.assign rfl rfl ?_
          refine WL.nil ?_
          refine WQ.then_normal ?_
          refine WC.ret ?_
          exact WQ.ret (rs := [.tmp 2]) rfl (.tmp rfl .nil) (fun w hS => ⟨by simp [tup, inWordB_int, *], hS⟩)

theorem refInWord_c (c : UInt8) (w : World) : Pure Try.prog 89 [.int .u8 c.toNat] w (.bool (Fm.inWordB c)) := by
  refine enter Try.func89 rfl Try.ntmps89 rfl (St.init _) ?_
  refine WC.seq ?_
  refine WC.region ?_
  refine WL.step ?_
  refine WL.assign rfl rfl ?_
  refine WL.nil ?_
  refine WQ.then_normal ?_
  refine WC.seq ?_
  refine WC.region ?_
  refine WL.step ?_
  refine WL.move rfl rfl ?_
  refine WL.step ?_
  refine WL.geI rfl rfl rfl ?_
  refine WL.step ?_
  refine WL.move rfl rfl ?_
  refine WA.splitB (i := 5) rfl (fun g5 => ?_) (fun g5 => ?_)
  · skip
    refine WL.step (WL.guardT rfl rfl rfl ?_)
    refine WL.move rfl rfl ?_
    refine WL.step (WL.guardT rfl rfl rfl ?_)
    refine WL.leI rfl rfl rfl ?_
    refine WL.step ?_
    refine WL.pickT rfl rfl rfl ?_
    refine WL.step ?_
    refine WL.move rfl rfl ?_
    refine WA.splitB (i := 9) rfl (fun g9 => ?_) (fun g9 => ?_)
    · skip
      refine WL.step (WL.guardF rfl rfl rfl rfl rfl rfl ?_)
      refine WL.step (WL.guardF rfl rfl rfl rfl rfl rfl ?_)
      refine WL.step (WL.guardF rfl rfl rfl rfl rfl rfl ?_)
      refine WL.step (WL.guardU rfl rfl rfl rfl rfl ?_)
      refine WL.step (WL.guardU rfl rfl rfl rfl rfl ?_)
      refine WL.step (WL.guardF rfl rfl rfl rfl rfl rfl ?_)
      refine WL.step ?_
      refine WL.pickT rfl rfl rfl ?_
      refine WL.step ?_
      refine WL.move rfl rfl ?_
      refine WL.step (WL.guardF rfl rfl rfl rfl rfl rfl ?_)
      refine WL.step (WL.guardF rfl rfl rfl rfl rfl rfl ?_)
      refine WL.step (WL.guardF rfl rfl rfl rfl rfl rfl ?_)
      refine WL.step (WL.guardU rfl rfl rfl rfl rfl ?_)
      refine WL.step (WL.guardU rfl rfl rfl rfl rfl ?_)
      refine WL.step (WL.guardF rfl rfl rfl rfl rfl rfl ?_)
      refine WL.step ?_
      refine WL.pickT rfl rfl rfl ?_
      refine WL.step ?_
      refine WL.move rfl rfl ?_
      refine WL.step (WL.guardF rfl rfl rfl rfl rfl rfl ?_)
      refine WL.step (WL.guardF rfl rfl rfl rfl rfl rfl ?_)
      refine WL.step ?_
      refine WL.pickT rfl rfl rfl ?_
      refine WL.step ?_
      refine WL.assign rfl rfl ?_
      refine WL.nil ?_
      refine WQ.then_normal ?_
      refine WC.ret ?_
      exact WQ.ret (rs := [.tmp 2]) rfl (.tmp rfl .nil) (fun w hS => ⟨by simp [tup, inWordB_int, *], hS⟩)
    · skip
      refine WL.step (WL.guardT rfl rfl rfl ?_)
      refine WL.move rfl rfl ?_
      refine WL.step (WL.guardT rfl rfl rfl ?_)
      refine WL.geI rfl rfl rfl ?_
      refine WL.step (WL.guardT rfl rfl rfl ?_)
      refine WL.move rfl rfl ?_
      refine WA.splitB (i := 12) rfl (fun g12 => ?_) (fun g12 => ?_)
      · skip
        refine WL.step (WL.guardT rfl rfl rfl ?_)
        refine WL.move rfl rfl ?_
        refine WL.step (WL.guardT rfl rfl rfl ?_)
        refine WL.leI rfl rfl rfl ?_
        refine WL.step (WL.guardT rfl rfl rfl ?_)
        refine WL.pickT rfl rfl rfl ?_
        refine WL.step ?_
        refine WL.pickF rfl rfl rfl ?_
        refine WL.step ?_
        refine WL.move rfl rfl ?_
        refine WA.splitB (i := 17) rfl (fun g17 => ?_) (fun g17 => ?_)
        · skip
          refine WL.step (WL.guardF rfl rfl rfl rfl rfl rfl ?_)
          refine WL.step (WL.guardF rfl rfl rfl rfl rfl rfl ?_)
          refine WL.step (WL.guardF rfl rfl rfl rfl rfl rfl ?_)
          refine WL.step (WL.guardU rfl rfl rfl rfl rfl ?_)
          refine WL.step (WL.guardU rfl rfl rfl rfl rfl ?_)
          refine WL.step (WL.guardF rfl rfl rfl rfl rfl rfl ?_)
          refine WL.step ?_
          refine WL.pickT rfl rfl rfl ?_
          refine WL.step ?_
          refine WL.move rfl rfl ?_
          refine WL.step (WL.guardF rfl rfl rfl rfl rfl rfl ?_)
          refine WL.step (WL.guardF rfl rfl rfl rfl rfl rfl ?_)
          refine WL.step ?_
          refine WL.pickT rfl rfl rfl ?_
          refine WL.step ?_
          refine WL.assign rfl rfl ?_
          refine WL.nil ?_
          refine WQ.then_normal ?_
          refine WC.ret ?_
          exact WQ.ret (rs := [.tmp 2]) rfl (.tmp rfl .nil) (fun w hS => ⟨by simp [tup, inWordB_int, *], hS⟩)
        · skip
          refine WL.step (WL.guardT rfl rfl rfl ?_)
          refine WL.move rfl rfl ?_
          refine WL.step (WL.guardT rfl rfl rfl ?_)
          refine WL.geI rfl rfl rfl ?_
          refine WL.step (WL.guardT rfl rfl rfl ?_)
          refine WL.move rfl rfl ?_
          refine WA.splitB (i := 20) rfl (fun g20 => ?_) (fun g20 => ?_)
          · skip
            refine WL.step (WL.guardT rfl rfl rfl ?_)
            refine WL.move rfl rfl ?_
            refine WL.step (WL.guardT rfl rfl rfl ?_)
            refine WL.leI rfl rfl rfl ?_
            refine WL.step (WL.guardT rfl rfl rfl ?_)
            refine WL.pickT rfl rfl rfl ?_
            refine WL.step ?_
            refine WL.pickF rfl rfl rfl ?_
            refine WL.step ?_
            refine WL.move rfl rfl ?_
            refine WA.splitB (i := 25) rfl (fun g25 => ?_) (fun g25 => ?_)
            · skip
              refine WL.step (WL.guardF rfl rfl rfl rfl rfl rfl ?_)
              refine WL.step (WL.guardF rfl rfl rfl rfl rfl rfl ?_)
              refine WL.step ?_
              refine WL.pickT rfl rfl rfl ?_
              refine WL.step ?_
              refine WL.assign rfl rfl ?_
              refine WL.nil ?_
              refine WQ.then_normal ?_
              refine WC.ret ?_
              exact WQ.ret (rs := [.tmp 2]) rfl (.tmp rfl .nil) (fun w hS => ⟨by simp [tup, inWordB_int, *], hS⟩)
            · skip
              refine WL.step (WL.guardT rfl rfl rfl ?_)
              refine WL.move rfl rfl ?_
              refine WL.step (WL.guardT rfl rfl rfl ?_)
              refine WL.eqI rfl rfl rfl ?_
              refine WL.step ?_
              refine WL.pickF rfl rfl rfl ?_
              refine WL.step ?_
              refine WL.assign rfl rfl ?_
              refine WL.nil ?_
              refine WQ.then_normal ?_
              refine WC.ret ?_
              exact WQ.ret (rs := [.tmp 2]) rfl (.tmp rfl .nil) (fun w hS => ⟨by simp [tup, inWordB_int, *], hS⟩)
          · skip
            refine WL.step (WL.guardF rfl rfl rfl rfl rfl rfl ?_)
            refine WL.step (WL.guardF rfl rfl rfl rfl rfl rfl ?_)
            refine WL.step (WL.guardT rfl rfl rfl ?_)
            refine WL.pickF rfl rfl rfl ?_
            refine WL.step ?_
            refine WL.pickF rfl rfl rfl ?_
            refine WL.step ?_
            refine WL.move rfl rfl ?_
            refine WL.step (WL.guardT rfl rfl rfl ?_)
            refine WL.move rfl rfl ?_
            refine WL.step (WL.guardT rfl rfl rfl ?_)
            refine WL.eqI rfl rfl rfl ?_
            refine WL.step ?_
            refine WL.pickF rfl rfl rfl ?_
            refine WL.step ?_
            refine WL.assign rfl rfl ?_
            refine WL.nil ?_
            refine WQ.then_normal ?_
            refine WC.ret ?_
            exact WQ.ret (rs := [.tmp 2]) rfl (.tmp rfl .nil) (fun w hS => ⟨by simp [tup, inWordB_int, *], hS⟩)
      · skip
        refine WL.step (WL.guardF rfl rfl rfl rfl rfl rfl ?_)
        refine WL.step (WL.guardF rfl rfl rfl rfl rfl rfl ?_)
        refine WL.step (WL.guardT rfl rfl rfl ?_)
        refine WL.pickF rfl rfl rfl ?_
        refine WL.step ?_
        refine WL.pickF rfl rfl rfl ?_
        refine WL.step ?_
        refine WL.move rfl rfl ?_
        refine WL.step (WL.guardT rfl rfl rfl ?_)
        refine WL.move rfl rfl ?_
        refine WL.step (WL.guardT rfl rfl rfl ?_)
        refine WL.geI rfl rfl rfl ?_
        refine WL.step (WL.guardT rfl rfl rfl ?_)
        refine WL.move rfl rfl ?_
        refine WA.splitB (i := 20) rfl (fun g20 => ?_) (fun g20 => ?_)
        · skip
          refine WL.step (WL.guardT rfl rfl rfl ?_)
          refine WL.move rfl rfl ?_
          refine WL.step (WL.guardT rfl rfl rfl ?_)
          refine WL.leI rfl rfl rfl ?_
          refine WL.step (WL.guardT rfl rfl rfl ?_)
          refine WL.pickT rfl rfl rfl ?_
          refine WL.step ?_
          refine WL.pickF rfl rfl rfl ?_
          refine WL.step ?_
          refine WL.move rfl rfl ?_
          refine WA.splitB (i := 25) rfl (fun g25 => ?_) (fun g25 => ?_)
          · skip
            refine WL.step (WL.guardF rfl rfl rfl rfl rfl rfl ?_)
            refine WL.step (WL.guardF rfl rfl rfl rfl rfl rfl ?_)
            refine WL.step ?_
            refine WL.pickT rfl rfl rfl ?_
            refine WL.step ?_
            refine WL.assign rfl rfl ?_
            refine WL.nil ?_
            refine WQ.then_normal ?_
            refine WC.ret ?_
            exact WQ.ret (rs := [.tmp 2]) rfl (.tmp rfl .nil) (fun w hS => ⟨by simp [tup, inWordB_int, *], hS⟩)
          · skip
            refine WL.step (WL.guardT rfl rfl rfl ?_)
            refine WL.move rfl rfl ?_
            refine WL.step (WL.guardT rfl rfl rfl ?_)
            refine WL.eqI rfl rfl rfl ?_
            refine WL.step ?_
            refine WL.pickF rfl rfl rfl ?_
            refine WL.step ?_
            refine WL.assign rfl rfl ?_
            refine WL.nil ?_
            refine WQ.then_normal ?_
            refine WC.ret ?_
            exact WQ.ret (rs := [.tmp 2]) rfl (.tmp rfl .nil) (fun w hS => ⟨by simp [tup, inWordB_int, *], hS⟩)
        · skip
          refine WL.step (WL.guardF rfl rfl rfl rfl rfl rfl ?_)
          refine WL.step (WL.guardF rfl rfl rfl rfl rfl rfl ?_)
          refine WL.step (WL.guardT rfl rfl rfl ?_)
          refine WL.pickF rfl rfl rfl ?_
          refine WL.step ?_
          refine WL.pickF rfl rfl rfl ?_
          refine WL.step ?_
          refine WL.move rfl rfl ?_
          refine WL.step (WL.guardT rfl rfl rfl ?_)
          refine WL.move rfl rfl ?_
          refine WL.step (WL.guardT rfl rfl rfl ?_)
          refine WL.eqI rfl rfl rfl ?_
          refine WL.step ?_
          refine WL.pickF rfl rfl rfl ?_
          refine WL.step ?_
          refine WL.assign rfl rfl ?_
          refine WL.nil ?_
          refine WQ.then_normal ?_
          refine WC.ret ?_
          exact WQ.ret (rs := [.tmp 2]) rfl (.tmp rfl .nil) (fun w hS => ⟨by simp [tup, inWordB_int, *], hS⟩)
  · skip
    refine WL.step (WL.guardF rfl rfl rfl rfl rfl rfl ?_)
    refine WL.step (WL.guardF rfl rfl rfl rfl rfl rfl ?_)
    refine WL.step ?_
    refine WL.pickF rfl rfl rfl ?_
    refine WL.step ?_
    refine WL.move rfl rfl ?_
    refine WL.step (WL.guardT rfl rfl rfl ?_)
    refine WL.move rfl rfl ?_
    refine WL.step (WL.guardT rfl rfl rfl ?_)
    refine WL.geI rfl rfl rfl ?_
    refine WL.step (WL.guardT rfl rfl rfl ?_)
    refine WL.move rfl rfl ?_
    refine WA.splitB (i := 12) rfl (fun g12 => ?_) (fun g12 => ?_)
    · skip
      refine WL.step (WL.guardT rfl rfl rfl ?_)
      refine WL.move rfl rfl ?_
      refine WL.step (WL.guardT rfl rfl rfl ?_)
      refine WL.leI rfl rfl rfl ?_
      refine WL.step (WL.guardT rfl rfl rfl ?_)
      refine WL.pickT rfl rfl rfl ?_
      refine WL.step ?_
      refine WL.pickF rfl rfl rfl ?_
      refine WL.step ?_
      refine WL.move rfl rfl ?_
      refine WA.splitB (i := 17) rfl (fun g17 => ?_) (fun g17 => ?_)
      · skip
        refine WL.step (WL.guardF rfl rfl rfl rfl rfl rfl ?_)
        refine WL.step (WL.guardF rfl rfl rfl rfl rfl rfl ?_)
        refine WL.step (WL.guardF rfl rfl rfl rfl rfl rfl ?_)
        refine WL.step (WL.guardU rfl rfl rfl rfl rfl ?_)
        refine WL.step (WL.guardU rfl rfl rfl rfl rfl ?_)
        refine WL.step (WL.guardF rfl rfl rfl rfl rfl rfl ?_)
        refine WL.step ?_
        refine WL.pickT rfl rfl rfl ?_
        refine WL.step ?_
        refine WL.move rfl rfl ?_
        refine WL.step (WL.guardF rfl rfl rfl rfl rfl rfl ?_)
        refine WL.step (WL.guardF rfl rfl rfl rfl rfl rfl ?_)
        refine WL.step ?_
        refine WL.pickT rfl rfl rfl ?_
        refine WL.step ?_
        refine WL.assign rfl rfl ?_
        refine WL.nil ?_
        refine WQ.then_normal ?_
        refine WC.ret ?_
        exact WQ.ret (rs := [.tmp 2]) rfl (.tmp rfl .nil) (fun w hS => ⟨by simp [tup, inWordB_int, *], hS⟩)
      · skip
        refine WL.step (WL.guardT rfl rfl rfl ?_)
        refine WL.move rfl rfl ?_
        refine WL.step (WL.guardT rfl rfl rfl ?_)
        refine WL.geI rfl rfl rfl ?_
        refine WL.step (WL.guardT rfl rfl rfl ?_)
        refine WL.move rfl rfl ?_
        refine WA.splitB (i := 20) rfl (fun g20 => ?_) (fun g20 => ?_)
        · skip
          refine WL.step (WL.guardT rfl rfl rfl ?_)
          refine WL.move rfl rfl ?_
          refine WL.step (WL.guardT rfl rfl rfl ?_)
          refine WL.leI rfl rfl rfl ?_
          refine WL.step (WL.guardT rfl rfl rfl ?_)
          refine WL.pickT rfl rfl rfl ?_
          refine WL.step ?_
          refine WL.pickF rfl rfl rfl ?_
          refine WL.step ?_
          refine WL.move rfl rfl ?_
          refine WA.splitB (i := 25) rfl (fun g25 => ?_) (fun g25 => ?_)
          · skip
            refine WL.step (WL.guardF rfl rfl rfl rfl rfl rfl ?_)
            refine WL.step (WL.guardF rfl rfl rfl rfl rfl rfl ?_)
            refine WL.step ?_
            refine WL.pickT rfl rfl rfl ?_
            refine WL.step ?_
            refine WL.assign rfl rfl ?_
            refine WL.nil ?_
            refine WQ.then_normal ?_
            refine WC.ret ?_
            exact WQ.ret (rs := [.tmp 2]) rfl (.tmp rfl .nil) (fun w hS => ⟨by simp [tup, inWordB_int, *], hS⟩)
          · skip
            refine WL.step (WL.guardT rfl rfl rfl ?_)
            refine WL.move rfl rfl ?_
            refine WL.step (WL.guardT rfl rfl rfl ?_)
            refine WL.eqI rfl rfl rfl ?_
            refine WL.step ?_
            refine WL.pickF rfl rfl rfl ?_
            refine WL.step ?_
            refine WL.assign rfl rfl ?_
            refine WL.nil ?_
            refine WQ.then_normal ?_
            refine WC.ret ?_
            exact WQ.ret (rs := [.tmp 2]) rfl (.tmp rfl .nil) (fun w hS => ⟨by simp [tup, inWordB_int, *], hS⟩)
        · skip
          refine WL.step (WL.guardF rfl rfl rfl rfl rfl rfl ?_)
          refine WL.step (WL.guardF rfl rfl rfl rfl rfl rfl ?_)
          refine WL.step (WL.guardT rfl rfl rfl ?_)
          refine WL.pickF rfl rfl rfl ?_
          refine WL.step ?_
          refine WL.pickF rfl rfl rfl ?_
          refine WL.step ?_
          refine WL.move rfl rfl ?_
          refine WL.step (WL.guardT rfl rfl rfl ?_)
          refine WL.move rfl rfl ?_
          refine WL.step (WL.guardT rfl rfl rfl ?_)
          refine WL.eqI rfl rfl rfl ?_
          refine WL.step ?_
          refine WL.pickF rfl rfl rfl ?_
          refine WL.step ?_
          refine WL.assign rfl rfl ?_
          refine WL.nil ?_
          refine WQ.then_normal ?_
          refine WC.ret ?_
          exact WQ.ret (rs := [.tmp 2]) rfl (.tmp rfl .nil) (fun w hS => ⟨by simp [tup, inWordB_int, *], hS⟩)
    · skip
      refine WL.step (WL.guardF rfl rfl rfl rfl rfl rfl ?_)
      refine WL.step (WL.guardF rfl rfl rfl rfl rfl rfl ?_)
      refine WL.step (WL.guardT rfl rfl rfl ?_)
      refine WL.pickF rfl rfl rfl ?_
      refine WL.step ?_
      refine WL.pickF rfl rfl rfl ?_
      refine WL.step ?_
      refine WL.move rfl rfl ?_
      refine WL.step (WL.guardT rfl rfl rfl ?_)
      refine WL.move rfl rfl ?_
      refine WL.step (WL.guardT rfl rfl rfl ?_)
      refine WL.geI rfl rfl rfl ?_
      refine WL.step (WL.guardT rfl rfl rfl ?_)
      refine WL.move rfl rfl ?_
      refine WA.splitB (i := 20) rfl (fun g20 => ?_) (fun g20 => ?_)
      · skip
        refine WL.step (WL.guardT rfl rfl rfl ?_)
        refine WL.move rfl rfl ?_
        refine WL.step (WL.guardT rfl rfl rfl ?_)
        refine WL.leI rfl rfl rfl ?_
        refine WL.step (WL.guardT rfl rfl rfl ?_)
        refine WL.pickT rfl rfl rfl ?_
        refine WL.step ?_
        refine WL.pickF rfl rfl rfl ?_
        refine WL.step ?_
        refine WL.move rfl rfl ?_
        refine WA.splitB (i := 25) rfl (fun g25 => ?_) (fun g25 => ?_)
        · skip
          refine WL.step (WL.guardF rfl rfl rfl rfl rfl rfl ?_)
          refine WL.step (WL.guardF rfl rfl rfl rfl rfl rfl ?_)
          refine WL.step ?_
          refine WL.pickT rfl rfl rfl ?_
          refine WL.step ?_
          refine WL.assign rfl rfl ?_
          refine WL.nil ?_
          refine WQ.then_normal ?_
          refine WC.ret ?_
          exact WQ.ret (rs := [.tmp 2]) rfl (.tmp rfl .nil) (fun w hS => ⟨by simp [tup, inWordB_int, *], hS⟩)
        · skip
          refine WL.step (WL.guardT rfl rfl rfl ?_)
          refine WL.move rfl rfl ?_
          refine WL.step (WL.guardT rfl rfl rfl ?_)
          refine WL.eqI rfl rfl rfl ?_
          refine WL.step ?_
          refine WL.pickF rfl rfl rfl ?_
          refine WL.step ?_
          refine WL.assign rfl rfl ?_
          refine WL.nil ?_
          refine WQ.then_normal ?_
          refine WC.ret ?_
          exact WQ.ret (rs := [.tmp 2]) rfl (.tmp rfl .nil) (fun w hS => ⟨by simp [tup, inWordB_int, *], hS⟩)
      · skip
        refine WL.step (WL.guardF rfl rfl rfl rfl rfl rfl ?_)
        refine WL.step (WL.guardF rfl rfl rfl rfl rfl rfl ?_)
        refine WL.step (WL.guardT rfl rfl rfl ?_)
        refine WL.pickF rfl rfl rfl ?_
        refine WL.step ?_
        refine WL.pickF rfl rfl rfl ?_
        refine WL.step ?_
        refine WL.move rfl rfl ?_
        refine WL.step (WL.guardT rfl rfl rfl ?_)
        refine WL.move rfl rfl ?_
        refine WL.step (WL.guardT rfl rfl rfl ?_)
        refine WL.eqI rfl rfl rfl ?_
        refine WL.step ?_
        refine WL.pickF rfl rfl rfl ?_
        refine WL.step ?_
        refine WL.assign rfl rfl ?_
        refine WL.nil ?_
        refine WQ.then_normal ?_
        refine WC.ret ?_
        exact WQ.ret (rs := [.tmp 2]) rfl (.tmp rfl .nil) (fun w hS => ⟨by simp [tup, inWordB_int, *], hS⟩)

theorem take_all {l : List UInt8} {k : Nat} {c : UInt8} (h : l[k]? = some c) : (l.take (k + 1)).all Fm.inWordB = ((l.take k).all Fm.inWordB && Fm.inWordB c) := by
  rw [List.take_add_one, h]; simp
theorem isNameB_first {l : List UInt8} {c : UInt8} (h : l[0]? = some c) : Fm.isNameB l = (decide (l.length ≤ 32) && !(48 ≤ c && c ≤ 57) && l.all Fm.inWordB) := by
  cases l with
  | nil => simp at h
  | cons a r => simp at h; subst h; rfl

def nmBad (l : List UInt8) : Bool := l.isEmpty || decide (32 < l.length) || (match l with | [] => false | c :: _ => (48 ≤ c && c ≤ 57))
theorem nmBad_name (l : List UInt8) : Fm.isNameB l = (!nmBad l && l.all Fm.inWordB) := by
  cases l with
  | nil => rfl
  | cons c r =>
    have e : decide ((c :: r).length ≤ 32) = !decide (32 < (c :: r).length) := by
      rw [Bool.eq_iff_iff]; simp
    simp only [Fm.isNameB, nmBad, List.isEmpty_cons, Bool.false_or, e, Bool.not_or]
theorem nmBad_len {l : List UInt8} (h : nmBad l = false) : l.length ≤ 32 := by
  simp only [nmBad, Bool.or_eq_false_iff, decide_eq_false_iff_not] at h
  omega
theorem nmBad_nil {l : List UInt8} (h : decide ((l.length : Int) < 1) = true) : nmBad l = true := by
  have : l = [] := List.eq_nil_of_length_eq_zero (by simp at h; omega)
  subst this; rfl
theorem nmBad_long {l : List UInt8} (h : decide ((32 : Int) < l.length) = true) : nmBad l = true := by
  have : 32 < l.length := by simp at h; omega
  simp [nmBad, this]
theorem nmBad_digit {l : List UInt8} {c : UInt8} (hc : l[0]? = some c) (h1 : decide ((48 : Int) ≤ c.toNat) = true) : nmBad l = (decide (32 < l.length) || decide ((c.toNat : Int) ≤ 57)) := by
  cases l with
  | nil => simp at hc
  | cons a r =>
    simp at hc; subst hc
    have : (48 : UInt8) ≤ a := by rw [u8_le]; simpa using h1
    simp [nmBad, this, u8_le]
theorem nmBad_nodigit {l : List UInt8} {c : UInt8} (hc : l[0]? = some c) (h1 : decide ((48 : Int) ≤ c.toNat) = false) : nmBad l = decide (32 < l.length) := by
  cases l with
  | nil => simp at hc
  | cons a r =>
    simp at hc; subst hc
    have : ¬ (48 : UInt8) ≤ a := by rw [u8_le]; simpa using h1
    simp [nmBad, this]

theorem isName_c (l : List UInt8) (w : World) : Pure Try.prog 79 [.string (str l)] w (.bool (Fm.isNameB l)) := by
  refine enter Try.func79 rfl Try.ntmps79 rfl (St.init _) ?_
  refine WC.seq ?_
  refine WC.region ?_
  refine WL.step ?_
  refine WL.assign rfl rfl ?_
  refine WL.nil ?_
  refine WQ.then_normal ?_
  refine WC.seq ?_
  refine WC.seq ?_
  refine WC.cutF [(21, .bool (nmBad l)), (0, .string (str l)), (2, .bool false)] (fun Q' hQ => ?_) ?_
  · skip
    refine WC.region ?_
    refine WL.step ?_
    refine WL.move rfl rfl ?_
    refine WL.step ?_
    refine WL.lenS F.und9 rfl rfl ?_
    refine WL.step ?_
    refine WL.ltI rfl rfl rfl ?_
    refine WL.step ?_
    refine WL.move rfl rfl ?_
    refine WA.splitB (i := 7) rfl (fun h7 => ?_) (fun h7 => ?_)
    · skip
      refine WL.step (WL.guardF rfl rfl rfl rfl rfl rfl ?_)
      refine WL.step (WL.guardF rfl rfl rfl rfl rfl rfl ?_)
      refine WL.step (WL.guardF rfl rfl rfl rfl rfl rfl ?_)
      refine WL.step ?_
      refine WL.pickT rfl rfl rfl ?_
      refine WL.step ?_
      refine WL.move rfl rfl ?_
      refine WL.step (WL.guardF rfl rfl rfl rfl rfl rfl ?_)
      refine WL.step (WL.guardF rfl rfl rfl rfl rfl rfl ?_)
      refine WL.step (WL.guardF rfl rfl rfl rfl rfl rfl ?_)
      refine WL.step (WL.guardF rfl rfl rfl rfl rfl rfl ?_)
      refine WL.step (WL.guardU rfl rfl rfl rfl rfl ?_)
      refine WL.step (WL.guardU rfl rfl rfl rfl rfl ?_)
      refine WL.step (WL.guardU rfl rfl rfl rfl rfl ?_)
      refine WL.step (WL.guardF rfl rfl rfl rfl rfl rfl ?_)
      refine WL.step ?_
      refine WL.pickT rfl rfl rfl ?_
      refine WL.nil ?_
      refine WQ.byCut hQ (subF_bool ?_ ⟨rfl, rfl, trivial⟩ rfl)
      first | exact nmBad_nil h7 | exact nmBad_long h12 | (rw [nmBad_digit hc0 h16]; simp at h12; simp; omega) | (rw [nmBad_nodigit hc0 h16]; simp at h12; simp; omega)
    · skip
      have hpos : 0 < l.length := by simp at h7; omega
      obtain ⟨c0, hc0⟩ : ∃ c, l[0]? = some c := ⟨l[0], by simp [hpos]⟩
      refine WL.step (WL.guardT rfl rfl rfl ?_)
      refine WL.move rfl rfl ?_
      refine WL.step (WL.guardT rfl rfl rfl ?_)
      refine WL.lenS F.und9 rfl rfl ?_
      refine WL.step (WL.guardT rfl rfl rfl ?_)
      refine WL.gtI rfl rfl rfl ?_
      refine WL.step ?_
      refine WL.pickF rfl rfl rfl ?_
      refine WL.step ?_
      refine WL.move rfl rfl ?_
      refine WA.splitB (i := 12) rfl (fun h12 => ?_) (fun h12 => ?_)
      · skip
        refine WL.step (WL.guardF rfl rfl rfl rfl rfl rfl ?_)
        refine WL.step (WL.guardF rfl rfl rfl rfl rfl rfl ?_)
        refine WL.step (WL.guardF rfl rfl rfl rfl rfl rfl ?_)
        refine WL.step (WL.guardF rfl rfl rfl rfl rfl rfl ?_)
        refine WL.step (WL.guardU rfl rfl rfl rfl rfl ?_)
        refine WL.step (WL.guardU rfl rfl rfl rfl rfl ?_)
        refine WL.step (WL.guardU rfl rfl rfl rfl rfl ?_)
        refine WL.step (WL.guardF rfl rfl rfl rfl rfl rfl ?_)
        refine WL.step ?_
        refine WL.pickT rfl rfl rfl ?_
        refine WL.nil ?_
        refine WQ.byCut hQ (subF_bool ?_ ⟨rfl, rfl, trivial⟩ rfl)
        first | exact nmBad_nil h7 | exact nmBad_long h12 | (rw [nmBad_digit hc0 h16]; simp at h12; simp; omega) | (rw [nmBad_nodigit hc0 h16]; simp at h12; simp; omega)
      · skip
        refine WL.step (WL.guardT rfl rfl rfl ?_)
        refine WL.move rfl rfl ?_
        refine WL.step (WL.guardT rfl rfl rfl ?_)
        refine WL.indexS (i := 0) F.und9 rfl rfl rfl hc0 ?_
        refine WL.step (WL.guardT rfl rfl rfl ?_)
        refine WL.geI rfl rfl rfl ?_
        refine WL.step (WL.guardT rfl rfl rfl ?_)
        refine WL.move rfl rfl ?_
        refine WA.splitB (i := 16) rfl (fun h16 => ?_) (fun h16 => ?_)
        · skip
          refine WL.step (WL.guardT rfl rfl rfl ?_)
          refine WL.move rfl rfl ?_
          refine WL.step (WL.guardT rfl rfl rfl ?_)
          refine WL.indexS (i := 0) F.und9 rfl rfl rfl hc0 ?_
          refine WL.step (WL.guardT rfl rfl rfl ?_)
          refine WL.leI rfl rfl rfl ?_
          refine WL.step (WL.guardT rfl rfl rfl ?_)
          refine WL.pickT rfl rfl rfl ?_
          refine WL.step ?_
          refine WL.pickF rfl rfl rfl ?_
          refine WL.nil ?_
          refine WQ.byCut hQ (subF_bool ?_ ⟨rfl, rfl, trivial⟩ rfl)
          first | exact nmBad_nil h7 | exact nmBad_long h12 | (rw [nmBad_digit hc0 h16]; simp at h12; simp; omega) | (rw [nmBad_nodigit hc0 h16]; simp at h12; simp; omega)
        · skip
          refine WL.step (WL.guardF rfl rfl rfl rfl rfl rfl ?_)
          refine WL.step (WL.guardF rfl rfl rfl rfl rfl rfl ?_)
          refine WL.step (WL.guardF rfl rfl rfl rfl rfl rfl ?_)
          refine WL.step (WL.guardT rfl rfl rfl ?_)
          refine WL.pickF rfl rfl rfl ?_
          refine WL.step ?_
          refine WL.pickF rfl rfl rfl ?_
          refine WL.nil ?_
          refine WQ.byCut hQ (subF_bool ?_ ⟨rfl, rfl, trivial⟩ rfl)
          first | exact nmBad_nil h7 | exact nmBad_long h12 | (rw [nmBad_digit hc0 h16]; simp at h12; simp; omega) | (rw [nmBad_nodigit hc0 h16]; simp at h12; simp; omega)
  refine WQ.then_normal ?_
  refine WC.cond rfl (fun h21 => ?_) (fun h21 => ?_)
  · skip
    refine WC.seq ?_
    refine WC.region ?_
    refine WL.step ?_
    refine WL.assign rfl rfl ?_
    refine WL.nil ?_
    refine WQ.then_normal ?_
    refine WC.ret ?_
    refine WQ.then_ret ?_
    exact WQ.ret (rs := [.tmp 2]) rfl (.tmp rfl .nil) (fun w hS => ⟨by simp [tup, nmBad_name, h21], hS⟩)
  · skip
    have hl : l.length ≤ 32 := nmBad_len h21
    refine WC.skip ?_
    refine WQ.then_normal ?_
    refine WC.seq ?_
    refine WC.seq ?_
    refine WC.region ?_
    refine WL.step ?_
    refine WL.move rfl rfl ?_
    refine WL.step ?_
    refine WL.lenS F.und9 rfl rfl ?_
    refine WL.step ?_
    refine WL.move rfl rfl ?_
    refine WL.nil ?_
    refine WQ.then_normal ?_
    refine WC.block ?_
    refine WC.loop (α := Nat) (fun k => k ≤ l.length ∧ (l.take k).all Fm.inWordB = true) (fun k => [(0, .string (str l)), (2, .bool false), (23, .int .i64 l.length), (24, .int .i64 k)]) (fun _ => []) (fun k => l.length - k) (0) ?_ ?_ ?_ ?_
    · exact ⟨by omega, by simp⟩
    · exact ⟨rfl, rfl, rfl, rfl, trivial⟩
    · rfl
    rintro k ⟨hk, hal⟩
    refine WC.seq ?_
    refine WC.region ?_
    refine WL.step ?_
    refine WL.ltI rfl rfl rfl ?_
    refine WL.nil ?_
    refine WQ.then_normal ?_
    refine WC.seq ?_
    refine WC.cond rfl (fun h25 => ?_) (fun h25 => ?_)
    · skip
      have hlt : k < l.length := by simpa using h25
      obtain ⟨c, hc⟩ : ∃ c, l[k]? = some c := ⟨l[k], by simp [hlt]⟩
      refine WC.skip ?_
      refine WQ.then_normal ?_
      refine WC.seq ?_
      refine WC.block ?_
      refine WC.seq ?_
      refine WC.region ?_
      refine WL.step ?_
      refine WL.move rfl rfl ?_
      refine WL.step ?_
      refine WL.assign rfl rfl ?_
      refine WL.nil ?_
      refine WQ.then_normal ?_
      refine WC.seq ?_
      refine WC.region ?_
      refine WL.step ?_
      refine WL.move rfl rfl ?_
      refine WL.step ?_
      refine WL.move rfl rfl ?_
      refine WL.step ?_
      refine WL.indexS F.und9 rfl rfl rfl (by assumption) ?_
      refine WL.step ?_
      refine WL.callV F.fun84 rfl rfl (fun w _ => inWord_c c w) ?_
      refine WL.step ?_
      refine WL.not rfl rfl ?_
      refine WL.nil ?_
      refine WQ.then_normal ?_
      refine WC.cond rfl (fun h31 => ?_) (fun h31 => ?_)
      · skip
        have hcw : Fm.inWordB c = false := by simpa using h31
        refine WC.seq ?_
        refine WC.region ?_
        refine WL.step ?_
        refine WL.assign rfl rfl ?_
        refine WL.nil ?_
        refine WQ.then_normal ?_
        refine WC.ret ?_
        refine WQ.block_ret ?_
        refine WQ.then_ret ?_
        refine WQ.then_ret ?_
        refine WQ.block_ret ?_
        refine WQ.then_ret ?_
        exact WQ.ret (rs := [.tmp 2]) rfl (.tmp rfl .nil) (fun w hS => ⟨by simp [tup, nmBad_name]; intro _; exact ⟨c, List.mem_of_getElem? hc, hcw⟩, hS⟩)
      · skip
        have hcw : Fm.inWordB c = true := by simpa using h31
        refine WC.skip ?_
        refine WQ.block_normal ?_
        refine WQ.then_normal ?_
        refine WC.region ?_
        refine WL.step ?_
        refine WL.add rfl rfl rfl ⟨by omega, by omega⟩ ?_
        refine WL.step ?_
        refine WL.move rfl rfl ?_
        refine WL.nil ?_
        refine WQ.back (k + 1) ?_ ?_ ?_ ?_
        · exact ⟨by omega, by rw [take_all hc, hal, hcw]; rfl⟩
        · omega
        · exact ⟨rfl, rfl, rfl, rfl, trivial⟩
        · rfl
    · skip
      have hkl : k = l.length := by simp at h25; omega
      subst hkl
      rw [List.take_length] at hal
      refine WC.exit ?_
      refine WQ.then_exit ?_
      refine WQ.then_exit ?_
      refine WQ.block_exit ?_
      refine WQ.then_normal ?_
      refine WC.seq ?_
      refine WC.region ?_
      refine WL.step ?_
      refine WL.assign rfl rfl ?_
      refine WL.nil ?_
      refine WQ.then_normal ?_
      refine WC.ret ?_
      exact WQ.ret (rs := [.tmp 2]) rfl (.tmp rfl .nil) (fun w hS => ⟨by simp [tup, nmBad_name, h21, hal], hS⟩)

end Go.Proofs.Ytbippghgkbapnaa
