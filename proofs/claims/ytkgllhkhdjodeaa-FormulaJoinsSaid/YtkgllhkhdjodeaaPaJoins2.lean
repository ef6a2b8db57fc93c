import Derived.Test.YtkgllhkhdjodeaaPaJoins1
set_option linter.unusedSimpArgs false
set_option linter.unusedVariables false
namespace Go.Proofs.Ytkgllhkhdjodeaa
open Go Go.Eng Go.Proofs
theorem node_c (op : Int) (s : Option Addr) (n c : Nat) (w : World) : Pure Try.prog 89 [.int .u8 op, .slice s n c] w (.agg #[.int .u8 op, .string (str []), .slice s n c]) := by
  refine enter Try.func89 rfl Try.ntmps89 rfl (St.init _) ?_
  refine WC.seq ?_
  refine WC.region ?_
  refine WL.step ?_
  refine WL.alloc F.zero74 rfl (fun b4 => ?_)
  refine WL.nil ?_
  refine WQ.then_normal ?_
  refine WC.seq ?_
  refine WC.region ?_
  refine WL.step ?_
  refine WL.move rfl rfl ?_
  refine WL.step ?_
  refine WL.move rfl rfl ?_
  refine WL.step ?_
  refine WL.build F.stT74 rfl (by repeat (first | exact Built.nil | apply Built.one rfl rfl (by repeat constructor) | apply Built.agg rfl rfl (by repeat constructor))) rfl ?_
  refine WL.step ?_
  refine WL.storeN F.agg74 rfl rfl rfl (by simp [Value.oneCell']) (by repeat (first | exact Upd.here | apply Upd.there)) (by repeat constructor) ?_
  refine WL.nil ?_
  refine WQ.then_normal ?_
  refine WC.ret ?_
  exact WQ.ret (rs := [.cell 4 74]) rfl (.cellN F.agg74 rfl (by repeat (first | exact List.Mem.head _ | apply List.Mem.tail)) rfl .nil) (fun w hS => ⟨rfl, hS.drop⟩)

theorem u8_le {a b : UInt8} : a ≤ b ↔ (a.toNat : Int) ≤ (b.toNat : Int) := by rw [UInt8.le_iff_toNat_le]; omega
theorem u8_eq {a b : UInt8} : a = b ↔ (a.toNat : Int) = (b.toNat : Int) := by rw [← UInt8.toNat_inj]; omega
theorem inWordB_int (c : UInt8) : Fm.inWordB c = ((c.toNat : Int) == 95 || (decide ((48 : Int) ≤ c.toNat) && decide ((c.toNat : Int) ≤ 57)) || (decide ((97 : Int) ≤ c.toNat) && decide ((c.toNat : Int) ≤ 122)) || (decide ((65 : Int) ≤ c.toNat) && decide ((c.toNat : Int) ≤ 90))) := by
  unfold Fm.inWordB
  rw [Bool.eq_iff_iff]
  simp [u8_le, u8_eq]

theorem inWord_c (c : UInt8) (w : World) : Pure Try.prog 84 [.int .u8 c.toNat] w (.bool (Fm.inWordB c)) := by
  refine enter Try.func84 rfl Try.ntmps84 rfl (St.init _) ?_
  refine WC.seq ?_
  refine WC.region ?_
  refine WL.step ?_
  refine WL.assign rfl rfl ?_
  refine WL.nil ?_
  refine WQ.then_normal ?_
  refine WC.seq ?_
  refine WC.region ?_
  refine WL.step ?_
  refine WL.move rfl rfl ?_
  refine WL.step ?_
  refine WL.eqI rfl rfl rfl ?_
  refine WL.step ?_
  refine WL.move rfl rfl ?_
  refine WA.splitB (i := 5) rfl (fun g5 => ?_) (fun g5 => ?_)
  · skip
    refine WL.step (WL.guardF rfl rfl rfl rfl rfl rfl ?_)
    refine WL.step (WL.guardF rfl rfl rfl rfl rfl rfl ?_)
    refine WL.step (WL.guardF rfl rfl rfl rfl rfl rfl ?_)
    refine WL.step (WL.guardU rfl rfl rfl rfl rfl ?_)
    refine WL.step (WL.guardU rfl rfl rfl rfl rfl ?_)
    refine WL.step (WL.guardF rfl rfl rfl rfl rfl rfl ?_)
    refine WL.step ?_
    refine WL.pickT rfl rfl rfl ?_
    refine WL.step ?_
    refine WL.move rfl rfl ?_
    refine WL.step (WL.guardF rfl rfl rfl rfl rfl rfl ?_)
    refine WL.step (WL.guardF rfl rfl rfl rfl rfl rfl ?_)
    refine WL.step (WL.guardF rfl rfl rfl rfl rfl rfl ?_)
    refine WL.step (WL.guardU rfl rfl rfl rfl rfl ?_)
    refine WL.step (WL.guardU rfl rfl rfl rfl rfl ?_)
    refine WL.step (WL.guardF rfl rfl rfl rfl rfl rfl ?_)
    refine WL.step ?_
    refine WL.pickT rfl rfl rfl ?_
    refine WL.step ?_
    refine WL.move rfl rfl ?_
    refine WL.step (WL.guardF rfl rfl rfl rfl rfl rfl ?_)
    refine WL.step (WL.guardF rfl rfl rfl rfl rfl rfl ?_)
    refine WL.step (WL.guardF rfl rfl rfl rfl rfl rfl ?_)
    refine WL.step (WL.guardU rfl rfl rfl rfl rfl ?_)
    refine WL.step (WL.guardU rfl rfl rfl rfl rfl ?_)
    refine WL.step (WL.guardF rfl rfl rfl rfl rfl rfl ?_)
    refine WL.step ?_
    refine WL.pickT rfl rfl rfl ?_
    refine WL.step ?_
    refine WL.assign rfl rfl ?_
    refine WL.nil ?_
    refine WQ.then_normal ?_
    refine WC.ret ?_
    exact WQ.ret (rs := [.tmp 2]) rfl (.tmp rfl .nil) (fun w hS => ⟨by simp [tup, inWordB_int, *], hS⟩)
  · skip
    refine WL.step (WL.guardT rfl rfl rfl ?_)
    refine WL.move rfl rfl ?_
    refine WL.step (WL.guardT rfl rfl rfl ?_)
    refine WL.geI rfl rfl rfl ?_
    refine WL.step (WL.guardT rfl rfl rfl ?_)
    refine WL.move rfl rfl ?_
    refine WA.splitB (i := 8) rfl (fun g8 => ?_) (fun g8 => ?_)
    · skip
      refine WL.step (WL.guardT rfl rfl rfl ?_)
      refine WL.move rfl rfl ?_
      refine WL.step (WL.guardT rfl rfl rfl ?_)
      refine WL.leI rfl rfl rfl ?_
      refine WL.step (WL.guardT rfl rfl rfl ?_)
      refine WL.pickT rfl rfl rfl ?_
      refine WL.step ?_
      refine WL.pickF rfl rfl rfl ?_
      refine WL.step ?_
      refine WL.move rfl rfl ?_
      refine WA.splitB (i := 13) rfl (fun g13 => ?_) (fun g13 => ?_)
      · skip
        refine WL.step (WL.guardF rfl rfl rfl rfl rfl rfl ?_)
        refine WL.step (WL.guardF rfl rfl rfl rfl rfl rfl ?_)
        refine WL.step (WL.guardF rfl rfl rfl rfl rfl rfl ?_)
        refine WL.step (WL.guardU rfl rfl rfl rfl rfl ?_)
        refine WL.step (WL.guardU rfl rfl rfl rfl rfl ?_)
        refine WL.step (WL.guardF rfl rfl rfl rfl rfl rfl ?_)
        refine WL.step ?_
        refine WL.pickT rfl rfl rfl ?_
        refine WL.step ?_
        refine WL.move rfl rfl ?_
        refine WL.step (WL.guardF rfl rfl rfl rfl rfl rfl ?_)
        refine WL.step (WL.guardF rfl rfl rfl rfl rfl rfl ?_)
        refine WL.step (WL.guardF rfl rfl rfl rfl rfl rfl ?_)
        refine WL.step (WL.guardU rfl rfl rfl rfl rfl ?_)
        refine WL.step (WL.guardU rfl rfl rfl rfl rfl ?_)
        refine WL.step (WL.guardF rfl rfl rfl rfl rfl rfl ?_)
        refine WL.step ?_
        refine WL.pickT rfl rfl rfl ?_
        refine WL.step ?_
        refine WL.assign rfl rfl ?_
        refine WL.nil ?_
        refine WQ.then_normal ?_
        refine WC.ret ?_
        exact WQ.ret (rs := [.tmp 2]) rfl (.tmp rfl .nil) (fun w hS => ⟨by simp [tup, inWordB_int, *], hS⟩)
      · skip
        refine WL.step (WL.guardT rfl rfl rfl ?_)
        refine WL.move rfl rfl ?_
        refine WL.step (WL.guardT rfl rfl rfl ?_)
        refine WL.geI rfl rfl rfl ?_
        refine WL.step (WL.guardT rfl rfl rfl ?_)
        refine WL.move rfl rfl ?_
        refine WA.splitB (i := 16) rfl (fun g16 => ?_) (fun g16 => ?_)
        · skip
          refine WL.step (WL.guardT rfl rfl rfl ?_)
          refine WL.move rfl rfl ?_
          refine WL.step (WL.guardT rfl rfl rfl ?_)
          refine WL.leI rfl rfl rfl ?_
          refine WL.step (WL.guardT rfl rfl rfl ?_)
          refine WL.pickT rfl rfl rfl ?_
          refine WL.step ?_
          refine WL.pickF rfl rfl rfl ?_
          refine WL.step ?_
          refine WL.move rfl rfl ?_
          refine WA.splitB (i := 21) rfl (fun g21 => ?_) (fun g21 => ?_)
          · skip
            refine WL.step (WL.guardF rfl rfl rfl rfl rfl rfl ?_)
            refine WL.step (WL.guardF rfl rfl rfl rfl rfl rfl ?_)
            refine WL.step (WL.guardF rfl rfl rfl rfl rfl rfl ?_)
            refine WL.step (WL.guardU rfl rfl rfl rfl rfl ?_)
            refine WL.step (WL.guardU rfl rfl rfl rfl rfl ?_)
            refine WL.step (WL.guardF rfl rfl rfl rfl rfl rfl ?_)
            refine WL.step ?_
            refine WL.pickT rfl rfl rfl ?_
            refine WL.step ?_
            refine WL.assign rfl rfl ?_
            refine WL.nil ?_
            refine WQ.then_normal ?_
            refine WC.ret ?_
            exact WQ.ret (rs := [.tmp 2]) rfl (.tmp rfl .nil) (fun w hS => ⟨by simp [tup, inWordB_int, *], hS⟩)
          · skip
            refine WL.step (WL.guardT rfl rfl rfl ?_)
            refine WL.move rfl rfl ?_
            refine WL.step (WL.guardT rfl rfl rfl ?_)
            refine WL.geI rfl rfl rfl ?_
            refine WL.step (WL.guardT rfl rfl rfl ?_)
            refine WL.move rfl rfl ?_
            refine WA.splitB (i := 24) rfl (fun g24 => ?_) (fun g24 => ?_)
            · skip
              refine WL.step (WL.guardT rfl rfl rfl ?_)
              refine WL.move rfl rfl ?_
              refine WL.step (WL.guardT rfl rfl rfl ?_)
              refine WL.leI rfl rfl rfl ?_
              refine WL.step (WL.guardT rfl rfl rfl ?_)
              refine WL.pickT rfl rfl rfl ?_
              refine WL.step ?_
              refine WL.pickF rfl rfl rfl ?_
              refine WL.step ?_
              refine WL.assign rfl rfl ?_
              refine WL.nil ?_
              refine WQ.then_normal ?_
              refine WC.ret ?_
              exact WQ.ret (rs := [.tmp 2]) rfl (.tmp rfl .nil) (fun w hS => ⟨by simp [tup, inWordB_int, *], hS⟩)
            · skip
              refine WL.step (WL.guardF rfl rfl rfl rfl rfl rfl ?_)
              refine WL.step (WL.guardF rfl rfl rfl rfl rfl rfl ?_)
              refine WL.step (WL.guardT rfl rfl rfl ?_)
              refine WL.pickF rfl rfl rfl ?_
              refine WL.step ?_
              refine WL.pickF rfl rfl rfl ?_
              refine WL.step ?_
              refine WL.assign rfl rfl ?_
              refine WL.nil ?_
              refine WQ.then_normal ?_
              refine WC.ret ?_
              exact WQ.ret (rs := [.tmp 2]) rfl (.tmp rfl .nil) (fun w hS => ⟨by simp [tup, inWordB_int, *], hS⟩)
        · skip
          refine WL.step (WL.guardF rfl rfl rfl rfl rfl rfl ?_)
          refine WL.step (WL.guardF rfl rfl rfl rfl rfl rfl ?_)
          refine WL.step (WL.guardT rfl rfl rfl ?_)
          refine WL.pickF rfl rfl rfl ?_
          refine WL.step ?_
          refine WL.pickF rfl rfl rfl ?_
          refine WL.step ?_
          refine WL.move rfl rfl ?_
          refine WL.step (WL.guardT rfl rfl rfl ?_)
          refine WL.move rfl rfl ?_
          refine WL.step (WL.guardT rfl rfl rfl ?_)
          refine WL.geI rfl rfl rfl ?_
          refine WL.step (WL.guardT rfl rfl rfl ?_)
          refine WL.move rfl rfl ?_
          refine WA.splitB (i := 24) rfl (fun g24 => ?_) (fun g24 => ?_)
          · skip
            refine WL.step (WL.guardT rfl rfl rfl ?_)
            refine WL.move rfl rfl ?_
            refine WL.step (WL.guardT rfl rfl rfl ?_)
            refine WL.leI rfl rfl rfl ?_
            refine WL.step (WL.guardT rfl rfl rfl ?_)
            refine WL.pickT rfl rfl rfl ?_
            refine WL.step ?_
            refine WL.pickF rfl rfl rfl ?_
            refine WL.step ?_
            refine WL.assign rfl rfl ?_
            refine WL.nil ?_
            refine WQ.then_normal ?_
            refine WC.ret ?_
            exact WQ.ret (rs := [.tmp 2]) rfl (.tmp rfl .nil) (fun w hS => ⟨by simp [tup, inWordB_int, *], hS⟩)
          · skip
            refine WL.step (WL.guardF rfl rfl rfl rfl rfl rfl ?_)
            refine WL.step (WL.guardF rfl rfl rfl rfl rfl rfl ?_)
            refine WL.step (WL.guardT rfl rfl rfl ?_)
            refine WL.pickF rfl rfl rfl ?_
            refine WL.step ?_
            refine WL.pickF rfl rfl rfl ?_
            refine WL.step ?_
            refine WL.assign rfl rfl ?_
            refine WL.nil ?_
            refine WQ.then_normal ?_
            refine WC.ret ?_
            exact WQ.ret (rs := [.tmp 2]) rfl (.tmp rfl .nil) (fun w hS => ⟨by simp [tup, inWordB_int, *], hS⟩)
    · skip
      refine WL.step (WL.guardF rfl rfl rfl rfl rfl rfl ?_)
      refine WL.step (WL.guardF rfl rfl rfl rfl rfl rfl ?_)
      refine WL.step (WL.guardT rfl rfl rfl ?_)
      refine WL.pickF rfl rfl rfl ?_
      refine WL.step ?_
      refine WL.pickF rfl rfl rfl ?_
      refine WL.step ?_
      refine WL.move rfl rfl ?_
      refine WL.step (WL.guardT rfl rfl rfl ?_)
      refine WL.move rfl rfl ?_
      refine WL.step (WL.guardT rfl rfl rfl ?_)
      refine WL.geI rfl rfl rfl ?_
      refine WL.step (WL.guardT rfl rfl rfl ?_)
      refine WL.move rfl rfl ?_
      refine WA.splitB (i := 16) rfl (fun g16 => ?_) (fun g16 => ?_)
      · skip
        refine WL.step (WL.guardT rfl rfl rfl ?_)
        refine WL.move rfl rfl ?_
        refine WL.step (WL.guardT rfl rfl rfl ?_)
        refine WL.leI rfl rfl rfl ?_
        refine WL.step (WL.guardT rfl rfl rfl ?_)
        refine WL.pickT rfl rfl rfl ?_
        refine WL.step ?_
        refine WL.pickF rfl rfl rfl ?_
        refine WL.step ?_
        refine WL.move rfl rfl ?_
        refine WA.splitB (i := 21) rfl (fun g21 => ?_) (fun g21 => ?_)
        · skip
          refine WL.step (WL.guardF rfl rfl rfl rfl rfl rfl ?_)
          refine WL.step (WL.guardF rfl rfl rfl rfl rfl rfl ?_)
          refine WL.step (WL.guardF rfl rfl rfl rfl rfl rfl ?_)
          refine WL.step (WL.guardU rfl rfl rfl rfl rfl ?_)
          refine WL.step (WL.guardU rfl rfl rfl rfl rfl ?_)
          refine WL.step (WL.guardF rfl rfl rfl rfl rfl rfl ?_)
          refine WL.step ?_
          refine WL.pickT rfl rfl rfl ?_
          refine WL.step ?_
          refine WL.assign rfl rfl ?_
          refine WL.nil ?_
          refine WQ.then_normal ?_
          refine WC.ret ?_
          exact WQ.ret (rs := [.tmp 2]) rfl (.tmp rfl .nil) (fun w hS => ⟨by simp [tup, inWordB_int, *], hS⟩)
        · skip
          refine WL.step (WL.guardT rfl rfl rfl ?_)
          refine WL.move rfl rfl ?_
          refine WL.step (WL.guardT rfl rfl rfl ?_)
          refine WL.geI rfl rfl rfl ?_
          refine WL.step (WL.guardT rfl rfl rfl ?_)
          refine WL.move rfl rfl ?_
          refine WA.splitB (i := 24) rfl (fun g24 => ?_) (fun g24 => ?_)
          · skip
            refine WL.step (WL.guardT rfl rfl rfl ?_)
            refine WL.move rfl rfl ?_
            refine WL.step (WL.guardT rfl rfl rfl ?_)
            refine WL.leI rfl rfl rfl ?_
            refine WL.step (WL.guardT rfl rfl rfl ?_)
            refine WL.pickT rfl rfl rfl ?_
            refine WL.step ?_
            refine WL.pickF rfl rfl rfl ?_
            refine WL.step ?_
            refine WL.assign rfl rfl ?_
            refine WL.nil ?_
            refine WQ.then_normal ?_
            refine WC.ret ?_
            exact WQ.ret (rs := [.tmp 2]) rfl (.tmp rfl .nil) (fun w hS => ⟨by simp [tup, inWordB_int, *], hS⟩)
          · skip
            refine WL.step (WL.guardF rfl rfl rfl rfl rfl rfl ?_)
            refine WL.step (WL.guardF rfl rfl rfl rfl rfl rfl ?_)
            refine WL.step (WL.guardT rfl rfl rfl ?_)
            refine WL.pickF rfl rfl rfl ?_
            refine WL.step ?_
            refine WL.pickF rfl rfl rfl ?_
            refine WL.step ?_
            refine WL.assign rfl rfl ?_
            refine WL.nil ?_
            refine WQ.then_normal ?_
            refine WC.ret ?_
            exact WQ.ret (rs := [.tmp 2]) rfl (.tmp rfl .nil) (fun w hS => ⟨by simp [tup, inWordB_int, *], hS⟩)
      · skip
        refine WL.step (WL.guardF rfl rfl rfl rfl rfl rfl ?_)
        refine WL.step (WL.guardF rfl rfl rfl rfl rfl rfl ?_)
        refine WL.step (WL.guardT rfl rfl rfl ?_)
        refine WL.pickF rfl rfl rfl ?_
        refine WL.step ?_
        refine WL.pickF rfl rfl rfl ?_
        refine WL.step ?_
        refine WL.move rfl rfl ?_
        refine WL.step (WL.guardT rfl rfl rfl ?_)
        refine WL.move rfl rfl ?_
        refine WL.step (WL.guardT rfl rfl rfl ?_)
        refine WL.geI rfl rfl rfl ?_
        refine WL.step (WL.guardT rfl rfl rfl ?_)
        refine WL.move rfl rfl ?_
        refine WA.splitB (i := 24) rfl (fun g24 => ?_) (fun g24 => ?_)
        · skip
          refine WL.step (WL.guardT rfl rfl rfl ?_)
          refine WL.move rfl rfl ?_
          refine WL.step (WL.guardT rfl rfl rfl ?_)
          refine WL.leI rfl rfl rfl ?_
          refine WL.step (WL.guardT rfl rfl rfl ?_)
          refine WL.pickT rfl rfl rfl ?_
          refine WL.step ?_
          refine WL.pickF rfl rfl rfl ?_
          refine WL.step ?_
          refine WL.assign rfl rfl ?_
          refine WL.nil ?_
          refine WQ.then_normal ?_
          refine WC.ret ?_
          exact WQ.ret (rs := [.tmp 2]) rfl (.tmp rfl .nil) (fun w hS => ⟨by simp [tup, inWordB_int, *], hS⟩)
        · skip
          refine WL.step (WL.guardF rfl rfl rfl rfl rfl rfl ?_)
          refine WL.step (WL.guardF rfl rfl rfl rfl rfl rfl ?_)
          refine WL.step (WL.guardT rfl rfl rfl ?_)
          refine WL.pickF rfl rfl rfl ?_
          refine WL.step ?_
          refine WL.pickF rfl rfl rfl ?_
          refine WL.step ?_
          refine WL.assign rfl rfl ?_
          refine WL.nil ?_
          refine WQ.then_normal ?_
          refine WC.ret ?_
          exact WQ.ret (rs := [.tmp 2]) rfl (.tmp rfl .nil) (fun w hS => ⟨by simp [tup, inWordB_int, *], hS⟩)

theorem take_all {l : List UInt8} {k : Nat} {c : UInt8} (h : l[k]? = some c) : (l.take (k + 1)).all Fm.inWordB = ((l.take k).all Fm.inWordB && Fm.inWordB c) := by
  rw [List.take_add_one, h]; simp
def nmBad (l : List UInt8) : Bool := l.isEmpty || decide (32 < l.length) || (match l with | [] => false | c :: _ => (48 ≤ c && c ≤ 57))
theorem nmBad_name (l : List UInt8) : Fm.isNameB l = (!nmBad l && l.all Fm.inWordB) := by
  cases l with
  | nil => rfl
  | cons c r =>
    have e : decide ((c :: r).length ≤ 32) = !decide (32 < (c :: r).length) := by
      rw [Bool.eq_iff_iff]; simp
    simp only [Fm.isNameB, nmBad, List.isEmpty_cons, Bool.false_or, e, Bool.not_or]
theorem nmBad_len {l : List UInt8} (h : nmBad l = false) : l.length ≤ 32 := by
  simp only [nmBad, Bool.or_eq_false_iff, decide_eq_false_iff_not] at h
  omega
theorem nmBad_nil {l : List UInt8} (h : decide ((l.length : Int) < 1) = true) : nmBad l = true := by
  have : l = [] := List.eq_nil_of_length_eq_zero (by simp at h; omega)
  subst this; rfl
theorem nmBad_long {l : List UInt8} (h : decide ((32 : Int) < l.length) = true) : nmBad l = true := by
  have : 32 < l.length := by simp at h; omega
  simp [nmBad, this]
theorem nmBad_digit {l : List UInt8} {c : UInt8} (hc : l[0]? = some c) (h1 : decide ((48 : Int) ≤ c.toNat) = true) : nmBad l = (decide (32 < l.length) || decide ((c.toNat : Int) ≤ 57)) := by
  cases l with
  | nil => simp at hc
  | cons a r =>
    simp at hc; subst hc
    have : (48 : UInt8) ≤ a := by rw [u8_le]; simpa using h1
    simp [nmBad, this, u8_le]
theorem nmBad_nodigit {l : List UInt8} {c : UInt8} (hc : l[0]? = some c) (h1 : decide ((48 : Int) ≤ c.toNat) = false) : nmBad l = decide (32 < l.length) := by
  cases l with
  | nil => simp at hc
  | cons a r =>
    simp at hc; subst hc
    have : ¬ (48 : UInt8) ≤ a := by rw [u8_le]; simpa using h1
    simp [nmBad, this]

theorem isName_c (l : List UInt8) (w : World) : Pure Try.prog 85 [.string (str l)] w (.bool (Fm.isNameB l)) := by
  refine enter Try.func85 rfl Try.ntmps85 rfl (St.init _) ?_
  refine WC.seq ?_
  refine WC.region ?_
  refine WL.step ?_
  refine WL.assign rfl rfl ?_
  refine WL.nil ?_
  refine WQ.then_normal ?_
  refine WC.seq ?_
  refine WC.seq ?_
  refine WC.cutF [(21, .bool (nmBad l)), (0, .string (str l)), (2, .bool false)] (fun Q' hQ => ?_) ?_
  · skip
    refine WC.region ?_
    refine WL.step ?_
    refine WL.move rfl rfl ?_
    refine WL.step ?_
    refine WL.lenS F.und9 rfl rfl ?_
    refine WL.step ?_
    refine WL.ltI rfl rfl rfl ?_
    refine WL.step ?_
    refine WL.move rfl rfl ?_
    refine WA.splitB (i := 7) rfl (fun h7 => ?_) (fun h7 => ?_)
    · skip
      refine WL.step (WL.guardF rfl rfl rfl rfl rfl rfl ?_)
      refine WL.step (WL.guardF rfl rfl rfl rfl rfl rfl ?_)
      refine WL.step (WL.guardF rfl rfl rfl rfl rfl rfl ?_)
      refine WL.step ?_
      refine WL.pickT rfl rfl rfl ?_
      refine WL.step ?_
      refine WL.move rfl rfl ?_
      refine WL.step (WL.guardF rfl rfl rfl rfl rfl rfl ?_)
      refine WL.step (WL.guardF rfl rfl rfl rfl rfl rfl ?_)
      refine WL.step (WL.guardF rfl rfl rfl rfl rfl rfl ?_)
      refine WL.step (WL.guardF rfl rfl rfl rfl rfl rfl ?_)
      refine WL.step (WL.guardU rfl rfl rfl rfl rfl ?_)
      refine WL.step (WL.guardU rfl rfl rfl rfl rfl ?_)
      refine WL.step (WL.guardU rfl rfl rfl rfl rfl ?_)
      refine WL.step (WL.guardF rfl rfl rfl rfl rfl rfl ?_)
      refine WL.step ?_
      refine WL.pickT rfl rfl rfl ?_
      refine WL.nil ?_
      refine WQ.byCut hQ (subF_bool ?_ ⟨rfl, rfl, trivial⟩ rfl)
      first | exact nmBad_nil h7 | exact nmBad_long h12 | (rw [nmBad_digit hc0 h16]; simp at h12; simp; omega) | (rw [nmBad_nodigit hc0 h16]; simp at h12; simp; omega)
    · skip
      have hpos : 0 < l.length := by simp at h7; omega
      obtain ⟨c0, hc0⟩ : ∃ c, l[0]? = some c := ⟨l[0], by simp [hpos]⟩
      refine WL.step (WL.guardT rfl rfl rfl ?_)
      refine WL.move rfl rfl ?_
      refine WL.step (WL.guardT rfl rfl rfl ?_)
      refine WL.lenS F.und9 rfl rfl ?_
      refine WL.step (WL.guardT rfl rfl rfl ?_)
      refine WL.gtI rfl rfl rfl ?_
      refine WL.step ?_
      refine WL.pickF rfl rfl rfl ?_
      refine WL.step ?_
      refine WL.move rfl rfl ?_
      refine WA.splitB (i := 12) rfl (fun h12 => ?_) (fun h12 => ?_)
      · skip
        refine WL.step (WL.guardF rfl rfl rfl rfl rfl rfl ?_)
        refine WL.step (WL.guardF rfl rfl rfl rfl rfl rfl ?_)
        refine WL.step (WL.guardF rfl rfl rfl rfl rfl rfl ?_)
        refine WL.step (WL.guardF rfl rfl rfl rfl rfl rfl ?_)
        refine WL.step (WL.guardU rfl rfl rfl rfl rfl ?_)
        refine WL.step (WL.guardU rfl rfl rfl rfl rfl ?_)
        refine WL.step (WL.guardU rfl rfl rfl rfl rfl ?_)
        refine WL.step (WL.guardF rfl rfl rfl rfl rfl rfl ?_)
        refine WL.step ?_
        refine WL.pickT rfl rfl rfl ?_
        refine WL.nil ?_
        refine WQ.byCut hQ (subF_bool ?_ ⟨rfl, rfl, trivial⟩ rfl)
        first | exact nmBad_nil h7 | exact nmBad_long h12 | (rw [nmBad_digit hc0 h16]; simp at h12; simp; omega) | (rw [nmBad_nodigit hc0 h16]; simp at h12; simp; omega)
      · skip
        refine WL.step (WL.guardT rfl rfl rfl ?_)
        refine WL.move rfl rfl ?_
        refine WL.step (WL.guardT rfl rfl rfl ?_)
        refine WL.indexS (i := 0) F.und9 rfl rfl rfl hc0 ?_
        refine WL.step (WL.guardT rfl rfl rfl ?_)
        refine WL.geI rfl rfl rfl ?_
        refine WL.step (WL.guardT rfl rfl rfl ?_)
        refine WL.move rfl rfl ?_
        refine WA.splitB (i := 16) rfl (fun h16 => ?_) (fun h16 => ?_)
        · skip
          refine WL.step (WL.guardT rfl rfl rfl ?_)
          refine WL.move rfl rfl ?_
          refine WL.step (WL.guardT rfl rfl rfl ?_)
          refine WL.indexS (i := 0) F.und9 rfl rfl rfl hc0 ?_
          refine WL.step (WL.guardT rfl rfl rfl ?_)
          refine WL.leI rfl rfl rfl ?_
          refine WL.step (WL.guardT rfl rfl rfl ?_)
          refine WL.pickT rfl rfl rfl ?_
          refine WL.step ?_
          refine WL.pickF rfl rfl rfl ?_
          refine WL.nil ?_
          refine WQ.byCut hQ (subF_bool ?_ ⟨rfl, rfl, trivial⟩ rfl)
          first | exact nmBad_nil h7 | exact nmBad_long h12 | (rw [nmBad_digit hc0 h16]; simp at h12; simp; omega) | (rw [nmBad_nodigit hc0 h16]; simp at h12; simp; omega)
        · skip
          refine WL.step (WL.guardF rfl rfl rfl rfl rfl rfl ?_)
          refine WL.step (WL.guardF rfl rfl rfl rfl rfl rfl ?_)
          refine WL.step (WL.guardF rfl rfl rfl rfl rfl rfl ?_)
          refine WL.step (WL.guardT rfl rfl rfl ?_)
          refine WL.pickF rfl rfl rfl ?_
          refine WL.step ?_
          refine WL.pickF rfl rfl rfl ?_
          refine WL.nil ?_
          refine WQ.byCut hQ (subF_bool ?_ ⟨rfl, rfl, trivial⟩ rfl)
          first | exact nmBad_nil h7 | exact nmBad_long h12 | (rw [nmBad_digit hc0 h16]; simp at h12; simp; omega) | (rw [nmBad_nodigit hc0 h16]; simp at h12; simp; omega)
  refine WQ.then_normal ?_
  refine WC.cond rfl (fun h21 => ?_) (fun h21 => ?_)
  · skip
    refine WC.seq ?_
    refine WC.region ?_
    refine WL.step ?_
    refine WL.assign rfl rfl ?_
    refine WL.nil ?_
    refine WQ.then_normal ?_
    refine WC.ret ?_
    refine WQ.then_ret ?_
    exact WQ.ret (rs := [.tmp 2]) rfl (.tmp rfl .nil) (fun w hS => ⟨by simp [tup, nmBad_name, h21], hS⟩)
  · skip
    have hl : l.length ≤ 32 := nmBad_len h21
    refine WC.skip ?_
    refine WQ.then_normal ?_
    refine WC.seq ?_
    refine WC.seq ?_
    refine WC.region ?_
    refine WL.step ?_
    refine WL.move rfl rfl ?_
    refine WL.step ?_
    refine WL.lenS F.und9 rfl rfl ?_
    refine WL.step ?_
    refine WL.move rfl rfl ?_
    refine WL.nil ?_
    refine WQ.then_normal ?_
    refine WC.block ?_
    refine WC.loop (α := Nat) (fun k => k ≤ l.length ∧ (l.take k).all Fm.inWordB = true) (fun k => [(0, .string (str l)), (2, .bool false), (23, .int .i64 l.length), (24, .int .i64 k)]) (fun _ => []) (fun k => l.length - k) (0) ?_ ?_ ?_ ?_
    · exact ⟨by omega, by simp⟩
    · exact ⟨rfl, rfl, rfl, rfl, trivial⟩
    · rfl
    rintro k ⟨hk, hal⟩
    refine WC.seq ?_
    refine WC.region ?_
    refine WL.step ?_
    refine WL.ltI rfl rfl rfl ?_
    refine WL.nil ?_
    refine WQ.then_normal ?_
    refine WC.seq ?_
    refine WC.cond rfl (fun h25 => ?_) (fun h25 => ?_)
    · skip
      have hlt : k < l.length := by simpa using h25
      obtain ⟨c, hc⟩ : ∃ c, l[k]? = some c := ⟨l[k], by simp [hlt]⟩
      refine WC.skip ?_
      refine WQ.then_normal ?_
      refine WC.seq ?_
      refine WC.block ?_
      refine WC.seq ?_
      refine WC.region ?_
      refine WL.step ?_
      refine WL.move rfl rfl ?_
      refine WL.step ?_
      refine WL.assign rfl rfl ?_
      refine WL.nil ?_
      refine WQ.then_normal ?_
      refine WC.seq ?_
      refine WC.region ?_
      refine WL.step ?_
      refine WL.move rfl rfl ?_
      refine WL.step ?_
      refine WL.move rfl rfl ?_
      refine WL.step ?_
      refine WL.indexS F.und9 rfl rfl rfl (by assumption) ?_
      refine WL.step ?_
      refine WL.callV F.fun84 rfl rfl (fun w _ => inWord_c c w) ?_
      refine WL.step ?_
      refine WL.not rfl rfl ?_
      refine WL.nil ?_
      refine WQ.then_normal ?_
      refine WC.cond rfl (fun h31 => ?_) (fun h31 => ?_)
      · skip
        have hcw : Fm.inWordB c = false := by simpa using h31
        refine WC.seq ?_
        refine WC.region ?_
        refine WL.step ?_
        refine WL.assign rfl rfl ?_
        refine WL.nil ?_
        refine WQ.then_normal ?_
        refine WC.ret ?_
        refine WQ.block_ret ?_
        refine WQ.then_ret ?_
        refine WQ.then_ret ?_
        refine WQ.block_ret ?_
        refine WQ.then_ret ?_
        exact WQ.ret (rs := [.tmp 2]) rfl (.tmp rfl .nil) (fun w hS => ⟨by simp [tup, nmBad_name]; intro _; exact ⟨c, List.mem_of_getElem? hc, hcw⟩, hS⟩)
      · skip
        have hcw : Fm.inWordB c = true := by simpa using h31
        refine WC.skip ?_
        refine WQ.block_normal ?_
        refine WQ.then_normal ?_
        refine WC.region ?_
        refine WL.step ?_
        refine WL.add rfl rfl rfl ⟨by omega, by omega⟩ ?_
        refine WL.step ?_
        refine WL.move rfl rfl ?_
        refine WL.nil ?_
        refine WQ.back (k + 1) ?_ ?_ ?_ ?_
        · exact ⟨by omega, by rw [take_all hc, hal, hcw]; rfl⟩
        · omega
        · exact ⟨rfl, rfl, rfl, rfl, trivial⟩
        · rfl
    · skip
      have hkl : k = l.length := by simp at h25; omega
      subst hkl
      rw [List.take_length] at hal
      refine WC.exit ?_
      refine WQ.then_exit ?_
      refine WQ.then_exit ?_
      refine WQ.block_exit ?_
      refine WQ.then_normal ?_
      refine WC.seq ?_
      refine WC.region ?_
      refine WL.step ?_
      refine WL.assign rfl rfl ?_
      refine WL.nil ?_
      refine WQ.then_normal ?_
      refine WC.ret ?_
      exact WQ.ret (rs := [.tmp 2]) rfl (.tmp rfl .nil) (fun w hS => ⟨by simp [tup, nmBad_name, h21, hal], hS⟩)

end Go.Proofs.Ytkgllhkhdjodeaa

namespace Go.Proofs.Ytkgllhkhdjodeaa
open Go Go.Eng Go.Proofs
theorem pre_len {rest s : List UInt8} (h : decide ((s.length : Int) ≤ rest.length) = false) : Fm.pre rest s = false := by
  have : ¬ s.length ≤ rest.length := by simp at h; omega
  simp [Fm.pre, this]
theorem pre_eq {rest s : List UInt8} (h : decide ((s.length : Int) ≤ rest.length) = true) : Fm.pre rest s = (rest.take s.length == s) := by
  have : s.length ≤ rest.length := by simpa using h
  simp [Fm.pre, this]

theorem litePrefix_c (l s : List UInt8) (w : World) : Pure Try.prog 95 [.string (str l), .string (str s)] w (.bool (Fm.pre l s)) := by
  refine enter Try.func95 rfl Try.ntmps95 rfl (St.init _) ?_
  refine WC.seq ?_
  refine WC.region ?_
  refine WL.step ?_
  refine WL.assign rfl rfl ?_
  refine WL.nil ?_
  refine WQ.then_normal ?_
  refine WC.seq ?_
  refine WC.region ?_
  refine WL.step ?_
  refine WL.move rfl rfl ?_
  refine WL.step ?_
  refine WL.lenS F.und9 rfl rfl ?_
  refine WL.step ?_
  refine WL.move rfl rfl ?_
  refine WL.step ?_
  refine WL.lenS F.und9 rfl rfl ?_
  refine WL.step ?_
  refine WL.geI rfl rfl rfl ?_
  refine WL.step ?_
  refine WL.move rfl rfl ?_
  refine WA.splitB (i := 10) rfl (fun h10 => ?_) (fun h10 => ?_)
  · skip
    refine WL.step (WL.guardT rfl rfl rfl ?_)
    refine WL.move rfl rfl ?_
    refine WL.step (WL.guardT rfl rfl rfl ?_)
    refine WL.move rfl rfl ?_
    refine WL.step (WL.guardT rfl rfl rfl ?_)
    refine WL.lenS F.und9 rfl rfl ?_
    refine WL.step (WL.guardT rfl rfl rfl ?_)
    refine WL.y (F := fun _ => True) (Yl.sliceTo F.und9 rfl rfl (by simpa using h10)) rfl (fun _ _ => trivial) ?_
    refine WL.step (WL.guardT rfl rfl rfl ?_)
    refine WL.move rfl rfl ?_
    refine WL.step (WL.guardT rfl rfl rfl ?_)
    refine WL.eqS rfl rfl rfl ?_
    refine WL.step ?_
    refine WL.pickT rfl rfl rfl ?_
    refine WL.step ?_
    refine WL.assign rfl rfl ?_
    refine WL.nil ?_
    refine WQ.then_normal ?_
    refine WC.ret ?_
    exact WQ.ret (rs := [.tmp 4]) rfl (.tmp rfl .nil) (fun w hS => ⟨by rw [pre_eq h10]; rfl, hS⟩)
  · skip
    refine WL.step (WL.guardF rfl rfl rfl rfl rfl rfl ?_)
    refine WL.step (WL.guardF rfl rfl rfl rfl rfl rfl ?_)
    refine WL.step (WL.guardF rfl rfl rfl rfl rfl rfl ?_)
    refine WL.step (WL.guardF rfl rfl rfl rfl rfl rfl ?_)
    refine WL.step (WL.guardF rfl rfl rfl rfl rfl rfl ?_)
    refine WL.step (WL.guardF rfl rfl rfl rfl rfl rfl ?_)
    refine WL.step ?_
    refine WL.pickF rfl rfl rfl ?_
    refine WL.step ?_
    refine WL.assign rfl rfl ?_
    refine WL.nil ?_
    refine WQ.then_normal ?_
    refine WC.ret ?_
    exact WQ.ret (rs := [.tmp 4]) rfl (.tmp rfl .nil) (fun w hS => ⟨by rw [pre_len h10]; rfl, hS⟩)

theorem hasPrefix_c (l s : List UInt8) (w : World) : Pure Try.prog 83 [.string (str l), .string (str s)] w (.bool (Fm.pre l s)) := by
  refine enter Try.func83 rfl Try.ntmps83 rfl (St.init _) ?_
  refine WC.seq ?_
  refine WC.region ?_
  refine WL.step ?_
  refine WL.assign rfl rfl ?_
  refine WL.nil ?_
  refine WQ.then_normal ?_
  refine WC.seq ?_
  refine WC.region ?_
  refine WL.step ?_
  refine WL.move rfl rfl ?_
  refine WL.step ?_
  refine WL.move rfl rfl ?_
  refine WL.step ?_
  refine WL.callV F.fun95 rfl rfl (fun w _ => litePrefix_c l s w) ?_
  refine WL.step ?_
  refine WL.assign rfl rfl ?_
  refine WL.nil ?_
  refine WQ.then_normal ?_
  refine WC.ret ?_
  exact WQ.ret (rs := [.tmp 4]) rfl (.tmp rfl .nil) (fun w hS => ⟨rfl, hS⟩)

/-- The parser's block. -/
abbrev pcell (text : List UInt8) (at_ : Nat) (word : List UInt8) : List Value := [.string (str text), .int .i64 (at_ : Int), .string (str word)]
def trouble (at_ : Nat) : List PanicEntry := [{ v := .iface 105 (.agg #[.int .i64 (at_ : Int)]), recovered := false }]
def NRpost (bp : Nat) (text : List UInt8) (w : World) : Fm.NR → Ending → World → Prop
  | .ok at_ word, e, w' => e = .returned (.tuple #[]) ∧ St w [bp] [pt bp (pcell text at_ word) 109] w'
  | .bad at_, e, w' => e = .panicked (trouble at_) ∧ ∃ cs, St w [bp] [pt bp cs 109] w'

theorem test_in {text : List UInt8} {p0 k : Nat} {c : UInt8} (hk : k ≤ Fm.blanks (text.drop p0)) (_h : decide (((p0 + k : Nat) : Int) < text.length) = true) (hc : text[p0 + k]? = some c) : decide (k < Fm.blanks (text.drop p0)) = ((c.toNat : Int) == 32) := by
  have h1 := Fm.blanks_get (text.drop p0) k hk
  rw [List.getElem?_drop, hc] at h1
  rw [Bool.eq_iff_iff, decide_eq_true_iff, ← h1]
  simp only [Option.some.injEq, beq_iff_eq, u8_eq]
  rfl
theorem test_out {text : List UInt8} {p0 k : Nat} (hk : k ≤ Fm.blanks (text.drop p0)) (h : decide (((p0 + k : Nat) : Int) < text.length) = false) : decide (k < Fm.blanks (text.drop p0)) = false := by
  have h1 := Fm.blanks_get (text.drop p0) k hk
  have : text.length ≤ p0 + k := by simp at h; omega
  rw [List.getElem?_drop, List.getElem?_eq_none this] at h1
  simp at h1
  simp; omega
theorem word_in {rest : List UInt8} {n : Nat} {c : UInt8} (hn : n ≤ (Fm.word rest).length) (hc : rest[n]? = some c) : decide (n < (Fm.word rest).length) = Fm.inWordB c := by
  rw [Bool.eq_iff_iff, decide_eq_true_iff]
  exact (Fm.takeWhile_get Fm.inWordB rest n c hn hc).symm
theorem word_out {rest : List UInt8} {n : Nat} (hn : n ≤ (Fm.word rest).length) (h : decide ((n : Int) < rest.length) = false) : decide (n < (Fm.word rest).length) = false := by
  have h1 := Fm.takeWhile_le Fm.inWordB rest
  have : (Fm.word rest).length ≤ rest.length := h1
  simp at h ⊢; omega
theorem tok_bad {rest : List UInt8} (hne : rest ≠ []) (hf : Fm.signs.find? (Fm.pre rest) = none) (h : (!(Fm.word rest == [48]) && !(Fm.word rest == [49]) && !(Fm.isNameB (Fm.word rest))) = true) : Fm.tok rest = none := by
  simp at h
  simp [Fm.tok, hne, hf, h]
theorem tok_word {rest : List UInt8} (hne : rest ≠ []) (hf : Fm.signs.find? (Fm.pre rest) = none) (h : (!(Fm.word rest == [48]) && !(Fm.word rest == [49]) && !(Fm.isNameB (Fm.word rest))) = false) : Fm.tok rest = some (Fm.word rest) := by
  have : Fm.word rest = [48] ∨ Fm.word rest = [49] ∨ Fm.isNameB (Fm.word rest) = true := by
    by_cases h1 : Fm.word rest = [48]
    · exact .inl h1
    · by_cases h2 : Fm.word rest = [49]
      · exact .inr (.inl h2)
      · simp [h1, h2] at h; exact .inr (.inr h)
  simp only [Fm.tok, hne, if_false, hf, this, if_true]

theorem next_c (bp : Nat) (text wd : List UInt8) (at_ : Nat) (hle : at_ + wd.length ≤ text.length) (hmax : text.length ≤ 140737488355328) (w : World) (hp : w.heap[bp]? = some (.cells (pcell text at_ wd).toArray 109 (0, 0))) :
    Calls Try.prog 59 [Value.pointer (some ⟨bp, 0, none⟩)].toArray w (NRpost bp text w (Fm.next text at_ wd)) := by
  obtain ⟨p0, hp0⟩ : ∃ p0, p0 = at_ + wd.length := ⟨_, rfl⟩
  have hp0l : p0 ≤ text.length := by omega
  refine enter Try.func59 rfl Try.ntmps59 rfl (St.init1 hp) ?_
  refine WC.seq ?_
  refine WC.draws [([12], fun w => w.cell? ⟨bp, 1, none⟩ = some (.int .i64 (at_ : Int))), ([12], fun w => w.cell? ⟨bp, 2, none⟩ = some (.string (str wd)))] (by kernel_rfl) (fun w hS => facts_cons (hS.cell (by repeat (first | exact List.Mem.head _ | apply List.Mem.tail)) rfl) (facts_cons (hS.cell (by repeat (first | exact List.Mem.head _ | apply List.Mem.tail)) rfl) (facts_nil))) ?_
  refine WD.take (i := 0) rfl rfl rfl rfl (by kernel_rfl) (by kernel_rfl) (by kernel_rfl) (fun _ _ _ h => h) (by kernel_rfl) need_none (Yl.move rfl) ?_
  refine WD.take (i := 1) rfl rfl rfl rfl (by kernel_rfl) (by kernel_rfl) (by kernel_rfl) (fun _ _ _ h => h) (by kernel_rfl) need_none (Yl.nilCheck rfl) ?_
  refine WD.take (i := 2) rfl rfl rfl rfl (by kernel_rfl) (by kernel_rfl) (by kernel_rfl) (fun _ _ _ h => h) (by kernel_rfl) need_none (Yl.fieldAddr0 F.fld109_1 rfl) ?_
  refine WD.take (i := 3) rfl rfl rfl rfl (by kernel_rfl) (by kernel_rfl) (by kernel_rfl) (fun _ _ _ h => h) (by kernel_rfl) (need_at 0 13 rfl (by kernel_rfl)) (Yl.load1 F.one3 rfl) ?_
  refine WD.take (i := 4) rfl rfl rfl rfl (by kernel_rfl) (by kernel_rfl) (by kernel_rfl) (fun _ _ _ h => h) (by kernel_rfl) need_none (Yl.move rfl) ?_
  refine WD.take (i := 5) rfl rfl rfl rfl (by kernel_rfl) (by kernel_rfl) (by kernel_rfl) (fun _ _ _ h => h) (by kernel_rfl) need_none (Yl.nilCheck rfl) ?_
  refine WD.take (i := 6) rfl rfl rfl rfl (by kernel_rfl) (by kernel_rfl) (by kernel_rfl) (fun _ _ _ h => h) (by kernel_rfl) need_none (Yl.fieldAddr0 F.fld109_2 rfl) ?_
  refine WD.take (i := 7) rfl rfl rfl rfl (by kernel_rfl) (by kernel_rfl) (by kernel_rfl) (fun _ _ _ h => h) (by kernel_rfl) (need_at 1 13 rfl (by kernel_rfl)) (Yl.load1 F.one9 rfl) ?_
  refine WD.take (i := 8) rfl rfl rfl rfl (by kernel_rfl) (by kernel_rfl) (by kernel_rfl) (fun _ _ _ h => h) (by kernel_rfl) need_none (Yl.lenS F.und9 rfl) ?_
  refine WD.take (i := 9) rfl rfl rfl rfl (by kernel_rfl) (by kernel_rfl) (by kernel_rfl) (fun _ _ _ h => h) (by kernel_rfl) need_none (Yl.add rfl rfl ⟨by omega, by omega⟩) ?_
  refine WD.take (i := 10) rfl rfl rfl rfl (by kernel_rfl) (by kernel_rfl) (by kernel_rfl) (fun _ _ _ h => h) (by kernel_rfl) need_none (Yl.nilCheck rfl) ?_
  refine WD.take (i := 11) rfl rfl rfl rfl (by kernel_rfl) (by kernel_rfl) (by kernel_rfl) (fun _ _ _ h => h) (by kernel_rfl) need_none (Yl.fieldAddr0 F.fld109_1 rfl) ?_
  refine WD.one (i := 12) (by kernel_rfl) rfl ?_
  refine WL.store1 F.one3 rfl rfl rfl (by repeat (first | exact Upd.here | apply Upd.there)) (by repeat constructor) ?_
  refine WD.on (closed_of (by kernel_rfl)) (fun w hS => Sx.gone rfl (Sx.gone rfl (Sx.none))) ?_
  refine WD.done (by kernel_rfl) ?_
  refine WQ.then_normal ?_
  refine WC.seq ?_
  refine WC.block ?_
  refine WC.loop (α := Nat) (fun k => k ≤ Fm.blanks (text.drop p0)) (fun _ => [(0, .pointer (some ⟨bp, 0, none⟩))]) (fun k => [pt bp [.string (str text), .int .i64 ((p0 + k : Nat) : Int), .string (str wd)] 109]) (fun k => Fm.blanks (text.drop p0) - k) (0) ?_ ?_ ?_ ?_
  · exact Nat.zero_le _
  · exact ⟨rfl, trivial⟩
  · (subst hp0; rfl)
  rintro k hk
  refine WC.seq ?_
  refine WC.seq ?_
  refine WC.cutP [(39, .bool (decide (k < Fm.blanks (text.drop p0)))), (0, .pointer (some ⟨bp, 0, none⟩))] (fun c a d v w h => by cases d <;> exact h) (fun Q' hP hQ => ?_) ?_
  · skip
    refine WC.draws [([], fun w => w.cell? ⟨bp, 1, none⟩ = some (.int .i64 ((p0 + k : Nat) : Int))), ([], fun w => w.cell? ⟨bp, 0, none⟩ = some (.string (str text))), ([], fun w => w.cell? ⟨bp, 0, none⟩ = some (.string (str text))), ([], fun w => w.cell? ⟨bp, 1, none⟩ = some (.int .i64 ((p0 + k : Nat) : Int)))] (by kernel_rfl) (fun w hS => facts_cons (hS.cell (by repeat (first | exact List.Mem.head _ | apply List.Mem.tail)) rfl) (facts_cons (hS.cell (by repeat (first | exact List.Mem.head _ | apply List.Mem.tail)) rfl) (facts_cons (hS.cell (by repeat (first | exact List.Mem.head _ | apply List.Mem.tail)) rfl) (facts_cons (hS.cell (by repeat (first | exact List.Mem.head _ | apply List.Mem.tail)) rfl) (facts_nil))))) ?_
    refine WD.take (i := 0) rfl rfl rfl rfl (by kernel_rfl) (by kernel_rfl) (by kernel_rfl) (fun _ _ _ h => hP _ _ _ _ _ h) (by kernel_rfl) need_none (Yl.move rfl) ?_
    refine WD.take (i := 1) rfl rfl rfl rfl (by kernel_rfl) (by kernel_rfl) (by kernel_rfl) (fun _ _ _ h => hP _ _ _ _ _ h) (by kernel_rfl) need_none (Yl.nilCheck rfl) ?_
    refine WD.take (i := 2) rfl rfl rfl rfl (by kernel_rfl) (by kernel_rfl) (by kernel_rfl) (fun _ _ _ h => hP _ _ _ _ _ h) (by kernel_rfl) need_none (Yl.fieldAddr0 F.fld109_1 rfl) ?_
    refine WD.take (i := 3) rfl rfl rfl rfl (by kernel_rfl) (by kernel_rfl) (by kernel_rfl) (fun _ _ _ h => hP _ _ _ _ _ h) (by kernel_rfl) (need_at 0 22 rfl (by kernel_rfl)) (Yl.load1 F.one3 rfl) ?_
    refine WD.take (i := 4) rfl rfl rfl rfl (by kernel_rfl) (by kernel_rfl) (by kernel_rfl) (fun _ _ _ h => hP _ _ _ _ _ h) (by kernel_rfl) need_none (Yl.move rfl) ?_
    refine WD.take (i := 5) rfl rfl rfl rfl (by kernel_rfl) (by kernel_rfl) (by kernel_rfl) (fun _ _ _ h => hP _ _ _ _ _ h) (by kernel_rfl) need_none (Yl.nilCheck rfl) ?_
    refine WD.take (i := 6) rfl rfl rfl rfl (by kernel_rfl) (by kernel_rfl) (by kernel_rfl) (fun _ _ _ h => hP _ _ _ _ _ h) (by kernel_rfl) need_none (Yl.fieldAddr0 F.fld109_0 rfl) ?_
    refine WD.take (i := 7) rfl rfl rfl rfl (by kernel_rfl) (by kernel_rfl) (by kernel_rfl) (fun _ _ _ h => hP _ _ _ _ _ h) (by kernel_rfl) (need_at 1 22 rfl (by kernel_rfl)) (Yl.load1 F.one9 rfl) ?_
    refine WD.take (i := 8) rfl rfl rfl rfl (by kernel_rfl) (by kernel_rfl) (by kernel_rfl) (fun _ _ _ h => hP _ _ _ _ _ h) (by kernel_rfl) need_none (Yl.lenS F.und9 rfl) ?_
    refine WD.take (i := 9) rfl rfl rfl rfl (by kernel_rfl) (by kernel_rfl) (by kernel_rfl) (fun _ _ _ h => hP _ _ _ _ _ h) (by kernel_rfl) need_none (Yl.ltI rfl rfl) ?_
    refine WD.take (i := 10) rfl rfl rfl rfl (by kernel_rfl) (by kernel_rfl) (by kernel_rfl) (fun _ _ _ h => hP _ _ _ _ _ h) (by kernel_rfl) need_none (Yl.move rfl) ?_
    refine fun hcl => WA.splitB (i := 28) rfl (fun h28 => ?_) (fun h28 => ?_)
    · skip
      refine (show WD _ _ _ _ _ _ _ _ _ _ _ _ from ?_) hcl
      have hlt : p0 + k < text.length := by simp at h28; omega
      obtain ⟨c, hc⟩ : ∃ c, text[p0 + k]? = some c := ⟨text[p0 + k], by simp [hlt]⟩
      refine WD.takeG (i := 11) rfl rfl rfl rfl rfl rfl (by kernel_rfl) (by kernel_rfl) (by kernel_rfl) (fun _ _ _ h => hP _ _ _ _ _ h) (by kernel_rfl) need_none (Yl.move rfl) ?_
      refine WD.takeG (i := 12) rfl rfl rfl rfl rfl rfl (by kernel_rfl) (by kernel_rfl) (by kernel_rfl) (fun _ _ _ h => hP _ _ _ _ _ h) (by kernel_rfl) need_none (Yl.nilCheck rfl) ?_
      refine WD.takeG (i := 13) rfl rfl rfl rfl rfl rfl (by kernel_rfl) (by kernel_rfl) (by kernel_rfl) (fun _ _ _ h => hP _ _ _ _ _ h) (by kernel_rfl) need_none (Yl.fieldAddr0 F.fld109_0 rfl) ?_
      refine WD.takeG (i := 14) rfl rfl rfl rfl rfl rfl (by kernel_rfl) (by kernel_rfl) (by kernel_rfl) (fun _ _ _ h => hP _ _ _ _ _ h) (by kernel_rfl) (need_at 2 22 rfl (by kernel_rfl)) (Yl.load1 F.one9 rfl) ?_
      refine WD.takeG (i := 15) rfl rfl rfl rfl rfl rfl (by kernel_rfl) (by kernel_rfl) (by kernel_rfl) (fun _ _ _ h => hP _ _ _ _ _ h) (by kernel_rfl) need_none (Yl.move rfl) ?_
      refine WD.takeG (i := 16) rfl rfl rfl rfl rfl rfl (by kernel_rfl) (by kernel_rfl) (by kernel_rfl) (fun _ _ _ h => hP _ _ _ _ _ h) (by kernel_rfl) need_none (Yl.nilCheck rfl) ?_
      refine WD.takeG (i := 17) rfl rfl rfl rfl rfl rfl (by kernel_rfl) (by kernel_rfl) (by kernel_rfl) (fun _ _ _ h => hP _ _ _ _ _ h) (by kernel_rfl) need_none (Yl.fieldAddr0 F.fld109_1 rfl) ?_
      refine WD.takeG (i := 18) rfl rfl rfl rfl rfl rfl (by kernel_rfl) (by kernel_rfl) (by kernel_rfl) (fun _ _ _ h => hP _ _ _ _ _ h) (by kernel_rfl) (need_at 3 22 rfl (by kernel_rfl)) (Yl.load1 F.one3 rfl) ?_
      refine WD.takeG (i := 19) rfl rfl rfl rfl rfl rfl (by kernel_rfl) (by kernel_rfl) (by kernel_rfl) (fun _ _ _ h => hP _ _ _ _ _ h) (by kernel_rfl) need_none (Yl.indexS (i := p0 + k) F.und9 rfl rfl hc) ?_
      refine WD.takeG (i := 20) rfl rfl rfl rfl rfl rfl (by kernel_rfl) (by kernel_rfl) (by kernel_rfl) (fun _ _ _ h => hP _ _ _ _ _ h) (by kernel_rfl) need_none (Yl.eqI rfl rfl) ?_
      refine WD.take (i := 21) rfl rfl rfl rfl (by kernel_rfl) (by kernel_rfl) (by kernel_rfl) (fun _ _ _ h => hP _ _ _ _ _ h) (by kernel_rfl) need_none (Yl.pickT rfl rfl) ?_
      refine WD.done (by kernel_rfl) ?_
      refine WQ.byCut hQ (subF_bool ?_ ⟨rfl, trivial⟩ rfl)
      first | exact test_in hk h28 hc | exact test_out hk h28
    · skip
      refine (show WD _ _ _ _ _ _ _ _ _ _ _ _ from ?_) hcl
      refine WD.skip (i := 11) rfl rfl rfl rfl rfl rfl rfl (by kernel_rfl) (by kernel_rfl) (by kernel_rfl) (fun _ _ _ h => hP _ _ _ _ _ h) (by kernel_rfl) ?_
      refine WD.skip (i := 12) rfl rfl rfl rfl rfl rfl rfl (by kernel_rfl) (by kernel_rfl) (by kernel_rfl) (fun _ _ _ h => hP _ _ _ _ _ h) (by kernel_rfl) ?_
      refine WD.skip (i := 13) rfl rfl rfl rfl rfl rfl rfl (by kernel_rfl) (by kernel_rfl) (by kernel_rfl) (fun _ _ _ h => hP _ _ _ _ _ h) (by kernel_rfl) ?_
      refine WD.skip (i := 14) rfl rfl rfl rfl rfl rfl rfl (by kernel_rfl) (by kernel_rfl) (by kernel_rfl) (fun _ _ _ h => hP _ _ _ _ _ h) (by kernel_rfl) ?_
      refine WD.skip (i := 15) rfl rfl rfl rfl rfl rfl rfl (by kernel_rfl) (by kernel_rfl) (by kernel_rfl) (fun _ _ _ h => hP _ _ _ _ _ h) (by kernel_rfl) ?_
      refine WD.skip (i := 16) rfl rfl rfl rfl rfl rfl rfl (by kernel_rfl) (by kernel_rfl) (by kernel_rfl) (fun _ _ _ h => hP _ _ _ _ _ h) (by kernel_rfl) ?_
      refine WD.skip (i := 17) rfl rfl rfl rfl rfl rfl rfl (by kernel_rfl) (by kernel_rfl) (by kernel_rfl) (fun _ _ _ h => hP _ _ _ _ _ h) (by kernel_rfl) ?_
      refine WD.skip (i := 18) rfl rfl rfl rfl rfl rfl rfl (by kernel_rfl) (by kernel_rfl) (by kernel_rfl) (fun _ _ _ h => hP _ _ _ _ _ h) (by kernel_rfl) ?_
      refine WD.skip (i := 19) rfl rfl rfl rfl rfl rfl rfl (by kernel_rfl) (by kernel_rfl) (by kernel_rfl) (fun _ _ _ h => hP _ _ _ _ _ h) (by kernel_rfl) ?_
      refine WD.skip (i := 20) rfl rfl rfl rfl rfl rfl rfl (by kernel_rfl) (by kernel_rfl) (by kernel_rfl) (fun _ _ _ h => hP _ _ _ _ _ h) (by kernel_rfl) ?_
      refine WD.take (i := 21) rfl rfl rfl rfl (by kernel_rfl) (by kernel_rfl) (by kernel_rfl) (fun _ _ _ h => hP _ _ _ _ _ h) (by kernel_rfl) need_none (Yl.pickF rfl rfl) ?_
      refine WD.done (by kernel_rfl) ?_
      refine WQ.byCut hQ (subF_bool ?_ ⟨rfl, trivial⟩ rfl)
      first | exact test_in hk h28 hc | exact test_out hk h28
  refine WQ.then_normal ?_
  refine WC.cond rfl (fun h39 => ?_) (fun h39 => ?_)
  · skip
    have hlt : k < Fm.blanks (text.drop p0) := by simpa using h39
    have hb := Fm.blanks_le (text.drop p0)
    simp at hb
    refine WC.skip ?_
    refine WQ.then_normal ?_
    refine WC.block ?_
    refine WC.region ?_
    refine WL.step ?_
    refine WL.move rfl rfl ?_
    refine WL.step ?_
    refine WL.nilCheck rfl rfl ?_
    refine WL.step ?_
    refine WL.fieldAddr0 F.fld109_1 rfl rfl ?_
    refine WL.step ?_
    refine WL.loadP F.one3 rfl rfl (by repeat (first | exact List.Mem.head _ | apply List.Mem.tail)) rfl ?_
    refine WL.step ?_
    refine WL.add rfl rfl rfl ⟨by omega, by omega⟩ ?_
    refine WL.step ?_
    refine WL.nilCheck rfl rfl ?_
    refine WL.step ?_
    refine WL.fieldAddr0 F.fld109_1 rfl rfl ?_
    refine WL.step ?_
    refine WL.store1 F.one3 rfl rfl rfl (by repeat (first | exact Upd.here | apply Upd.there)) (by repeat constructor) ?_
    refine WL.nil ?_
    refine WQ.block_normal ?_
    refine WQ.back (k + 1) ?_ ?_ ?_ ?_
    · exact by omega
    · omega
    · exact ⟨rfl, trivial⟩
    · rfl
  · skip
    have hkb : k = Fm.blanks (text.drop p0) := by simp at h39; omega
    obtain ⟨q, hq⟩ : ∃ q, q = p0 + k := ⟨_, rfl⟩
    have hql : q ≤ text.length := by have := Fm.blanks_le (text.drop p0); simp at this; omega
    rw [← hq]
    have hnx : Fm.next text at_ wd = match Fm.tok (text.drop q) with | some x => .ok q x | none => .bad q := by rw [hq, hkb, hp0]; rfl
    clear hq hkb hk h39
    refine WC.exit ?_
    refine WQ.then_exit ?_
    refine WQ.then_exit ?_
    refine WQ.block_exit ?_
    refine WQ.then_normal ?_
    refine WC.seq ?_
    refine WC.region ?_
    refine WL.step ?_
    refine WL.move rfl rfl ?_
    refine WL.step ?_
    refine WL.nilCheck rfl rfl ?_
    refine WL.step ?_
    refine WL.fieldAddr0 F.fld109_2 rfl rfl ?_
    refine WL.step ?_
    refine WL.store1 F.one9 rfl rfl rfl (by repeat (first | exact Upd.here | apply Upd.there)) (by repeat constructor) ?_
    refine WL.nil ?_
    refine WQ.then_normal ?_
    refine WC.seq ?_
    refine WC.seq ?_
    refine WC.draws [([], fun w => w.cell? ⟨bp, 1, none⟩ = some (.int .i64 (q : Int))), ([], fun w => w.cell? ⟨bp, 0, none⟩ = some (.string (str text)))] (by kernel_rfl) (fun w hS => facts_cons (hS.cell (by repeat (first | exact List.Mem.head _ | apply List.Mem.tail)) rfl) (facts_cons (hS.cell (by repeat (first | exact List.Mem.head _ | apply List.Mem.tail)) rfl) (facts_nil))) ?_
    refine WD.take (i := 0) rfl rfl rfl rfl (by kernel_rfl) (by kernel_rfl) (by kernel_rfl) (fun _ _ _ h => h) (by kernel_rfl) need_none (Yl.move rfl) ?_
    refine WD.take (i := 1) rfl rfl rfl rfl (by kernel_rfl) (by kernel_rfl) (by kernel_rfl) (fun _ _ _ h => h) (by kernel_rfl) need_none (Yl.nilCheck rfl) ?_
    refine WD.take (i := 2) rfl rfl rfl rfl (by kernel_rfl) (by kernel_rfl) (by kernel_rfl) (fun _ _ _ h => h) (by kernel_rfl) need_none (Yl.fieldAddr0 F.fld109_1 rfl) ?_
    refine WD.take (i := 3) rfl rfl rfl rfl (by kernel_rfl) (by kernel_rfl) (by kernel_rfl) (fun _ _ _ h => h) (by kernel_rfl) (need_at 0 10 rfl (by kernel_rfl)) (Yl.load1 F.one3 rfl) ?_
    refine WD.take (i := 4) rfl rfl rfl rfl (by kernel_rfl) (by kernel_rfl) (by kernel_rfl) (fun _ _ _ h => h) (by kernel_rfl) need_none (Yl.move rfl) ?_
    refine WD.take (i := 5) rfl rfl rfl rfl (by kernel_rfl) (by kernel_rfl) (by kernel_rfl) (fun _ _ _ h => h) (by kernel_rfl) need_none (Yl.nilCheck rfl) ?_
    refine WD.take (i := 6) rfl rfl rfl rfl (by kernel_rfl) (by kernel_rfl) (by kernel_rfl) (fun _ _ _ h => h) (by kernel_rfl) need_none (Yl.fieldAddr0 F.fld109_0 rfl) ?_
    refine WD.take (i := 7) rfl rfl rfl rfl (by kernel_rfl) (by kernel_rfl) (by kernel_rfl) (fun _ _ _ h => h) (by kernel_rfl) (need_at 1 10 rfl (by kernel_rfl)) (Yl.load1 F.one9 rfl) ?_
    refine WD.take (i := 8) rfl rfl rfl rfl (by kernel_rfl) (by kernel_rfl) (by kernel_rfl) (fun _ _ _ h => h) (by kernel_rfl) need_none (Yl.lenS F.und9 rfl) ?_
    refine WD.take (i := 9) rfl rfl rfl rfl (by kernel_rfl) (by kernel_rfl) (by kernel_rfl) (fun _ _ _ h => h) (by kernel_rfl) need_none (Yl.eqI rfl rfl) ?_
    refine WD.done (by kernel_rfl) ?_
    refine WQ.then_normal ?_
    refine WC.cond rfl (fun h59 => ?_) (fun h59 => ?_)
    · skip
      have hqe : q = text.length := by simp at h59; omega
      refine WC.ret ?_
      refine WQ.then_ret ?_
      refine WQ.ret (rs := []) rfl .nil (fun w hS => ?_)
      rw [hnx, hqe, List.drop_length]
      exact ⟨rfl, by rw [← hqe]; exact hS⟩
    · skip
      have hqlt : q < text.length := by simp at h59; omega
      refine WC.skip ?_
      refine WQ.then_normal ?_
      refine WC.seq ?_
      refine WC.draws [([], fun w => w.cell? ⟨bp, 0, none⟩ = some (.string (str text))), ([], fun w => w.cell? ⟨bp, 1, none⟩ = some (.int .i64 (q : Int)))] (by kernel_rfl) (fun w hS => facts_cons (hS.cell (by repeat (first | exact List.Mem.head _ | apply List.Mem.tail)) rfl) (facts_cons (hS.cell (by repeat (first | exact List.Mem.head _ | apply List.Mem.tail)) rfl) (facts_nil))) ?_
      refine WD.take (i := 0) rfl rfl rfl rfl (by kernel_rfl) (by kernel_rfl) (by kernel_rfl) (fun _ _ _ h => h) (by kernel_rfl) need_none (Yl.move rfl) ?_
      refine WD.take (i := 1) rfl rfl rfl rfl (by kernel_rfl) (by kernel_rfl) (by kernel_rfl) (fun _ _ _ h => h) (by kernel_rfl) need_none (Yl.nilCheck rfl) ?_
      refine WD.take (i := 2) rfl rfl rfl rfl (by kernel_rfl) (by kernel_rfl) (by kernel_rfl) (fun _ _ _ h => h) (by kernel_rfl) need_none (Yl.fieldAddr0 F.fld109_0 rfl) ?_
      refine WD.take (i := 3) rfl rfl rfl rfl (by kernel_rfl) (by kernel_rfl) (by kernel_rfl) (fun _ _ _ h => h) (by kernel_rfl) (need_at 0 10 rfl (by kernel_rfl)) (Yl.load1 F.one9 rfl) ?_
      refine WD.take (i := 4) rfl rfl rfl rfl (by kernel_rfl) (by kernel_rfl) (by kernel_rfl) (fun _ _ _ h => h) (by kernel_rfl) need_none (Yl.move rfl) ?_
      refine WD.take (i := 5) rfl rfl rfl rfl (by kernel_rfl) (by kernel_rfl) (by kernel_rfl) (fun _ _ _ h => h) (by kernel_rfl) need_none (Yl.nilCheck rfl) ?_
      refine WD.take (i := 6) rfl rfl rfl rfl (by kernel_rfl) (by kernel_rfl) (by kernel_rfl) (fun _ _ _ h => h) (by kernel_rfl) need_none (Yl.fieldAddr0 F.fld109_1 rfl) ?_
      refine WD.take (i := 7) rfl rfl rfl rfl (by kernel_rfl) (by kernel_rfl) (by kernel_rfl) (fun _ _ _ h => h) (by kernel_rfl) (need_at 1 10 rfl (by kernel_rfl)) (Yl.load1 F.one3 rfl) ?_
      refine WD.take (i := 8) rfl rfl rfl rfl (by kernel_rfl) (by kernel_rfl) (by kernel_rfl) (fun _ _ _ h => h) (by kernel_rfl) need_none (Yl.sliceFrom F.und9 rfl rfl hql) ?_
      refine WD.take (i := 9) rfl rfl rfl rfl (by kernel_rfl) (by kernel_rfl) (by kernel_rfl) (fun _ _ _ h => h) (by kernel_rfl) need_none (Yl.assign rfl) ?_
      refine WD.done (by kernel_rfl) ?_
      refine WQ.then_normal ?_
      refine WC.seq ?_
      refine WC.seq ?_
      refine WC.region ?_
      refine WL.step ?_
      refine WL.buildA F.arT139 rfl (by repeat (first | exact Built.nil | apply Built.one rfl rfl (by repeat constructor) | apply Built.agg rfl rfl (by repeat constructor))) rfl ?_
      refine WL.step ?_
      refine WL.move rfl rfl ?_
      refine WL.nil ?_
      refine WQ.then_normal ?_
      refine WC.block ?_
      obtain ⟨rest, hrest⟩ : ∃ rest, rest = text.drop q := ⟨_, rfl⟩
      have hrl : rest.length = text.length - q := by rw [hrest]; simp
      have hrne : rest ≠ [] := by intro h0; rw [h0] at hrl; simp at hrl; omega
      rw [← hrest] at hnx ⊢
      refine WC.say 69 (.agg (Fm.signs.map (fun s => Value.string (str s))).toArray) rfl ?_
      refine WC.loop (α := Nat) (fun i => i ≤ 10 ∧ (Fm.signs.take i).all (fun s => !Fm.pre rest s) = true) (fun i => [(0, .pointer (some ⟨bp, 0, none⟩)), (2, .string (str rest)), (69, .agg (Fm.signs.map (fun s => Value.string (str s))).toArray), (70, .int .i64 (i : Int))]) (fun _ => [pt bp [.string (str text), .int .i64 (q : Int), .string (str [])] 109]) (fun i => 10 - i) (0) ?_ ?_ ?_ ?_
      · exact ⟨by omega, rfl⟩
      · exact ⟨rfl, rfl, rfl, rfl, trivial⟩
      · rfl
      rintro i ⟨hi, hno⟩
      refine WC.seq ?_
      refine WC.region ?_
      refine WL.step ?_
      refine WL.ltI rfl rfl rfl ?_
      refine WL.nil ?_
      refine WQ.then_normal ?_
      refine WC.seq ?_
      refine WC.cond rfl (fun h71 => ?_) (fun h71 => ?_)
      · skip
        have hi10 : i < 10 := by simp at h71; omega
        obtain ⟨s, hs⟩ : ∃ s, Fm.signs[i]? = some s := ⟨_, List.getElem?_eq_getElem (show i < Fm.signs.length from hi10)⟩
        refine WC.skip ?_
        refine WQ.then_normal ?_
        refine WC.seq ?_
        refine WC.block ?_
        refine WC.seq ?_
        refine WC.region ?_
        refine WL.step ?_
        refine WL.indexA1 (i := i) F.und139 F.one9 rfl rfl rfl hi10 (v := .string (str s)) (by simp [hs]) ?_
        refine WL.step ?_
        refine WL.assign rfl rfl ?_
        refine WL.nil ?_
        refine WQ.then_normal ?_
        refine WC.seq ?_
        refine WC.region ?_
        refine WL.step ?_
        refine WL.move rfl rfl ?_
        refine WL.step ?_
        refine WL.move rfl rfl ?_
        refine WL.step ?_
        refine WL.callV F.fun83 rfl rfl (fun w _ => hasPrefix_c rest s w) ?_
        refine WL.nil ?_
        refine WQ.then_normal ?_
        refine WC.cond rfl (fun h75 => ?_) (fun h75 => ?_)
        · skip
          have htok : Fm.tok rest = some s := by simp only [Fm.tok, hrne, if_false, Fm.find_at _ _ i s hno hs h75]
          refine WC.seq ?_
          refine WC.region ?_
          refine WL.step ?_
          refine WL.move rfl rfl ?_
          refine WL.step ?_
          refine WL.move rfl rfl ?_
          refine WL.step ?_
          refine WL.nilCheck rfl rfl ?_
          refine WL.step ?_
          refine WL.fieldAddr0 F.fld109_2 rfl rfl ?_
          refine WL.step ?_
          refine WL.store1 F.one9 rfl rfl rfl (by repeat (first | exact Upd.here | apply Upd.there)) (by repeat constructor) ?_
          refine WL.nil ?_
          refine WQ.then_normal ?_
          refine WC.ret ?_
          refine WQ.block_ret ?_
          refine WQ.then_ret ?_
          refine WQ.then_ret ?_
          refine WQ.block_ret ?_
          refine WQ.then_ret ?_
          refine WQ.ret (rs := []) rfl .nil (fun w hS => ?_)
          rw [hnx, htok]
          exact ⟨rfl, hS⟩
        · skip
          have hpre : Fm.pre rest s = false := h75
          refine WC.skip ?_
          refine WQ.block_normal ?_
          refine WQ.then_normal ?_
          refine WC.region ?_
          refine WL.step ?_
          refine WL.add rfl rfl rfl ⟨by omega, by omega⟩ ?_
          refine WL.step ?_
          refine WL.move rfl rfl ?_
          refine WL.nil ?_
          refine WQ.back (i + 1) ?_ ?_ ?_ ?_
          · exact ⟨by omega, by rw [Fm.all_take_succ _ _ _ s hs, hno, hpre]; rfl⟩
          · omega
          · exact ⟨rfl, rfl, rfl, rfl, trivial⟩
          · rfl
      · skip
        have hi10 : i = 10 := by simp at h71; omega
        subst hi10
        have hfn : Fm.signs.find? (Fm.pre rest) = none := Fm.find_none _ _ hno
        refine WC.exit ?_
        refine WQ.then_exit ?_
        refine WQ.then_exit ?_
        refine WQ.block_exit ?_
        refine WQ.then_normal ?_
        refine WC.seq ?_
        refine WC.region ?_
        refine WL.step ?_
        refine WL.assign rfl rfl ?_
        refine WL.nil ?_
        refine WQ.then_normal ?_
        refine WC.seq ?_
        refine WC.block ?_
        refine WC.loop (α := Nat) (fun n => n ≤ (Fm.word rest).length) (fun n => [(0, .pointer (some ⟨bp, 0, none⟩)), (2, .string (str rest)), (5, .int .i64 (n : Int))]) (fun _ => [pt bp [.string (str text), .int .i64 (q : Int), .string (str [])] 109]) (fun n => (Fm.word rest).length - n) (0) ?_ ?_ ?_ ?_
        · exact Nat.zero_le _
        · exact ⟨rfl, rfl, rfl, trivial⟩
        · rfl
        rintro n hn
        refine WC.seq ?_
        refine WC.seq ?_
        refine WC.cutF [(90, .bool (decide (n < (Fm.word rest).length))), (0, .pointer (some ⟨bp, 0, none⟩)), (2, .string (str rest)), (5, .int .i64 (n : Int))] (fun Q' hQ => ?_) ?_
        · skip
          refine WC.region ?_
          have hwl : (Fm.word rest).length ≤ rest.length := Fm.takeWhile_le _ _
          refine WL.step ?_
          refine WL.move rfl rfl ?_
          refine WL.step ?_
          refine WL.move rfl rfl ?_
          refine WL.step ?_
          refine WL.lenS F.und9 rfl rfl ?_
          refine WL.step ?_
          refine WL.ltI rfl rfl rfl ?_
          refine WL.step ?_
          refine WL.move rfl rfl ?_
          refine WA.splitB (i := 85) rfl (fun h85 => ?_) (fun h85 => ?_)
          · skip
            have hlt : n < rest.length := by simp at h85; omega
            obtain ⟨c, hc⟩ : ∃ c, rest[n]? = some c := ⟨rest[n], by simp [hlt]⟩
            refine WL.step (WL.guardT rfl rfl rfl ?_)
            refine WL.move rfl rfl ?_
            refine WL.step (WL.guardT rfl rfl rfl ?_)
            refine WL.move rfl rfl ?_
            refine WL.step (WL.guardT rfl rfl rfl ?_)
            refine WL.indexS (i := n) F.und9 rfl rfl rfl hc ?_
            refine WL.step (WL.guardT rfl rfl rfl ?_)
            refine WL.callV F.fun84 rfl rfl (fun w _ => inWord_c c w) ?_
            refine WL.step ?_
            refine WL.pickT rfl rfl rfl ?_
            refine WL.nil ?_
            refine WQ.byCut hQ (subF_bool ?_ ⟨rfl, rfl, rfl, trivial⟩ rfl)
            first | exact word_in hn hc | exact word_out hn h85
          · skip
            refine WL.step (WL.guardF rfl rfl rfl rfl rfl rfl ?_)
            refine WL.step (WL.guardF rfl rfl rfl rfl rfl rfl ?_)
            refine WL.step (WL.guardF rfl rfl rfl rfl rfl rfl ?_)
            refine WL.step (WL.guardF rfl rfl rfl rfl rfl rfl ?_)
            refine WL.step ?_
            refine WL.pickF rfl rfl rfl ?_
            refine WL.nil ?_
            refine WQ.byCut hQ (subF_bool ?_ ⟨rfl, rfl, rfl, trivial⟩ rfl)
            first | exact word_in hn hc | exact word_out hn h85
        refine WQ.then_normal ?_
        refine WC.cond rfl (fun h90 => ?_) (fun h90 => ?_)
        · skip
          have hlt : n < (Fm.word rest).length := by simpa using h90
          have hwl : (Fm.word rest).length ≤ rest.length := Fm.takeWhile_le _ _
          refine WC.skip ?_
          refine WQ.then_normal ?_
          refine WC.block ?_
          refine WC.region ?_
          refine WL.step ?_
          refine WL.move rfl rfl ?_
          refine WL.step ?_
          refine WL.add rfl rfl rfl ⟨by omega, by omega⟩ ?_
          refine WL.step ?_
          refine WL.assign rfl rfl ?_
          refine WL.nil ?_
          refine WQ.block_normal ?_
          refine WQ.back (n + 1) ?_ ?_ ?_ ?_
          · exact by omega
          · omega
          · exact ⟨rfl, rfl, rfl, trivial⟩
          · rfl
        · skip
          have hne : n = (Fm.word rest).length := by simp at h90; omega
          subst hne
          refine WC.exit ?_
          refine WQ.then_exit ?_
          refine WQ.then_exit ?_
          refine WQ.block_exit ?_
          refine WQ.then_normal ?_
          refine WC.seq ?_
          refine WC.region ?_
          refine WL.step ?_
          refine WL.move rfl rfl ?_
          refine WL.step ?_
          refine WL.move rfl rfl ?_
          refine WL.step ?_
          refine WL.move rfl rfl ?_
          refine WL.step ?_
          refine WL.y (F := fun _ => True) (Yl.sliceTo F.und9 rfl rfl (Fm.takeWhile_le _ _)) rfl (fun _ _ => trivial) ?_
          have htw : rest.take (Fm.word rest).length = Fm.word rest := Fm.takeWhile_take _ _
          rw [htw]
          refine WL.step ?_
          refine WL.nilCheck rfl rfl ?_
          refine WL.step ?_
          refine WL.fieldAddr0 F.fld109_2 rfl rfl ?_
          refine WL.step ?_
          refine WL.store1 F.one9 rfl rfl rfl (by repeat (first | exact Upd.here | apply Upd.there)) (by repeat constructor) ?_
          refine WL.nil ?_
          refine WQ.then_normal ?_
          refine WC.seq ?_
          refine WC.cutF [(118, .bool (!(Fm.word rest == [48]) && !(Fm.word rest == [49]) && !(Fm.isNameB (Fm.word rest)))), (0, .pointer (some ⟨bp, 0, none⟩))] (fun Q' hQ => ?_) ?_
          · skip
            refine WC.region ?_
            refine WL.step ?_
            refine WL.move rfl rfl ?_
            refine WL.step ?_
            refine WL.nilCheck rfl rfl ?_
            refine WL.step ?_
            refine WL.fieldAddr0 F.fld109_2 rfl rfl ?_
            refine WL.step ?_
            refine WL.loadP F.one9 rfl rfl (by repeat (first | exact List.Mem.head _ | apply List.Mem.tail)) rfl ?_
            refine WL.step ?_
            refine WL.neS rfl rfl rfl ?_
            refine WL.step ?_
            refine WL.move rfl rfl ?_
            refine WA.splitB (i := 104) rfl (fun h104 => ?_) (fun h104 => ?_)
            · skip
              refine WL.step (WL.guardT rfl rfl rfl ?_)
              refine WL.move rfl rfl ?_
              refine WL.step (WL.guardT rfl rfl rfl ?_)
              refine WL.nilCheck rfl rfl ?_
              refine WL.step (WL.guardT rfl rfl rfl ?_)
              refine WL.fieldAddr0 F.fld109_2 rfl rfl ?_
              refine WL.step (WL.guardT rfl rfl rfl ?_)
              refine WL.loadP F.one9 rfl rfl (by repeat (first | exact List.Mem.head _ | apply List.Mem.tail)) rfl ?_
              refine WL.step (WL.guardT rfl rfl rfl ?_)
              refine WL.neS rfl rfl rfl ?_
              refine WL.step ?_
              refine WL.pickT rfl rfl rfl ?_
              refine WL.step ?_
              refine WL.move rfl rfl ?_
              refine WA.splitB (i := 111) rfl (fun h111 => ?_) (fun h111 => ?_)
              · skip
                refine WL.step (WL.guardT rfl rfl rfl ?_)
                refine WL.move rfl rfl ?_
                refine WL.step (WL.guardT rfl rfl rfl ?_)
                refine WL.nilCheck rfl rfl ?_
                refine WL.step (WL.guardT rfl rfl rfl ?_)
                refine WL.fieldAddr0 F.fld109_2 rfl rfl ?_
                refine WL.step (WL.guardT rfl rfl rfl ?_)
                refine WL.loadP F.one9 rfl rfl (by repeat (first | exact List.Mem.head _ | apply List.Mem.tail)) rfl ?_
                refine WL.step (WL.guardT rfl rfl rfl ?_)
                refine WL.callV F.fun85 rfl rfl (fun w _ => isName_c _ w) ?_
                refine WL.step (WL.guardT rfl rfl rfl ?_)
                refine WL.not rfl rfl ?_
                refine WL.step ?_
                refine WL.pickT rfl rfl rfl ?_
                refine WL.nil ?_
                refine WQ.byCut hQ (subF_bool ?_ ⟨rfl, trivial⟩ rfl)
                first | (rw [h104, h111]; rfl) | (rw [h104, h111]) | (rw [h104]; rfl)
              · skip
                refine WL.step (WL.guardF rfl rfl rfl rfl rfl rfl ?_)
                refine WL.step (WL.guardF rfl rfl rfl rfl rfl rfl ?_)
                refine WL.step (WL.guardF rfl rfl rfl rfl rfl rfl ?_)
                refine WL.step (WL.guardF rfl rfl rfl rfl rfl rfl ?_)
                refine WL.step (WL.guardF rfl rfl rfl rfl rfl rfl ?_)
                refine WL.step (WL.guardF rfl rfl rfl rfl rfl rfl ?_)
                refine WL.step ?_
                refine WL.pickF rfl rfl rfl ?_
                refine WL.nil ?_
                refine WQ.byCut hQ (subF_bool ?_ ⟨rfl, trivial⟩ rfl)
                first | (rw [h104, h111]; rfl) | (rw [h104, h111]) | (rw [h104]; rfl)
            · skip
              refine WL.step (WL.guardF rfl rfl rfl rfl rfl rfl ?_)
              refine WL.step (WL.guardF rfl rfl rfl rfl rfl rfl ?_)
              refine WL.step (WL.guardF rfl rfl rfl rfl rfl rfl ?_)
              refine WL.step (WL.guardF rfl rfl rfl rfl rfl rfl ?_)
              refine WL.step (WL.guardF rfl rfl rfl rfl rfl rfl ?_)
              refine WL.step ?_
              refine WL.pickF rfl rfl rfl ?_
              refine WL.step ?_
              refine WL.move rfl rfl ?_
              refine WL.step (WL.guardF rfl rfl rfl rfl rfl rfl ?_)
              refine WL.step (WL.guardF rfl rfl rfl rfl rfl rfl ?_)
              refine WL.step (WL.guardF rfl rfl rfl rfl rfl rfl ?_)
              refine WL.step (WL.guardF rfl rfl rfl rfl rfl rfl ?_)
              refine WL.step (WL.guardF rfl rfl rfl rfl rfl rfl ?_)
              refine WL.step (WL.guardF rfl rfl rfl rfl rfl rfl ?_)
              refine WL.step ?_
              refine WL.pickF rfl rfl rfl ?_
              refine WL.nil ?_
              refine WQ.byCut hQ (subF_bool ?_ ⟨rfl, trivial⟩ rfl)
              first | (rw [h104, h111]; rfl) | (rw [h104, h111]) | (rw [h104]; rfl)
          refine WQ.then_normal ?_
          refine WC.cond rfl (fun h118 => ?_) (fun h118 => ?_)
          · skip
            have htok : Fm.tok rest = none := tok_bad hrne hfn h118
            refine WC.region ?_
            refine WL.step ?_
            refine WL.move rfl rfl ?_
            refine WL.step ?_
            refine WL.nilCheck rfl rfl ?_
            refine WL.step ?_
            refine WL.fieldAddr0 F.fld109_1 rfl rfl ?_
            refine WL.step ?_
            refine WL.loadP F.one3 rfl rfl (by repeat (first | exact List.Mem.head _ | apply List.Mem.tail)) rfl ?_
            refine WL.step ?_
            refine WL.build F.stT105 rfl (by repeat (first | exact Built.nil | apply Built.one rfl rfl (by repeat constructor) | apply Built.agg rfl rfl (by repeat constructor))) rfl ?_
            refine WL.step ?_
            refine WL.makeIface F.conc105 rfl rfl ?_
            refine WL.step ?_
            refine WL.panic rfl ?_
            refine WQ.panicked (fun w hS => ?_)
            rw [hnx, htok]
            exact ⟨rfl, _, hS⟩
          · skip
            have htok : Fm.tok rest = some (Fm.word rest) := tok_word hrne hfn h118
            refine WC.skip ?_
            refine WQ.fin (rs := []) rfl .nil (fun w hS => ?_)
            rw [hnx, htok]
            exact ⟨rfl, hS⟩

end Go.Proofs.Ytkgllhkhdjodeaa

namespace Go.Proofs.Ytkgllhkhdjodeaa
open Go Go.Eng Go.Proofs
def TRpost (bp : Nat) (text : List UInt8) (at_ : Nat) (wd : List UInt8) (w : World) : Fm.TR → Ending → World → Prop
  | .no, e, w' => e = .returned (.bool false) ∧ St w [bp] [pt bp (pcell text at_ wd) 109] w'
  | .yes a x, e, w' => e = .returned (.bool true) ∧ St w [bp] [pt bp (pcell text a x) 109] w'
  | .bad a, e, w' => e = .panicked (trouble a) ∧ ∃ cs, St w [bp] [pt bp cs 109] w'
def PRpost (bp : Nat) (text : List UInt8) (w : World) : Fm.PR → Ending → World → Prop
  | .ok t a x, e, w' => ∃ y : List Nat × Option Addr × Nat, e = .returned (tv t y.2.1 y.2.2) ∧ St w [bp] [own y.1 t (tv t y.2.1 y.2.2), pt bp (pcell text a x) 109] w'
  | .bad a, e, w' => e = .panicked (trouble a) ∧ ∃ cs, St w [bp] [pt bp cs 109] w'
theorem takes_eq {text wd : List UInt8} {at_ : Nat} {a : Nat} {x : List UInt8} (h : Fm.next text at_ wd = .ok a x) : Fm.takes text at_ wd wd = .yes a x := by simp [Fm.takes, h]
theorem takes_bad {text wd : List UInt8} {at_ : Nat} {a : Nat} (h : Fm.next text at_ wd = .bad a) : Fm.takes text at_ wd wd = .bad a := by simp [Fm.takes, h]

theorem takes_c (bp : Nat) (text wd s : List UInt8) (at_ : Nat) (hle : at_ + wd.length ≤ text.length) (hmax : text.length ≤ 140737488355328) (w : World) (hp : w.heap[bp]? = some (.cells (pcell text at_ wd).toArray 109 (0, 0))) :
    Calls Try.prog 87 [Value.pointer (some ⟨bp, 0, none⟩), .string (str s)].toArray w (TRpost bp text at_ wd w (Fm.takes text at_ wd s)) := by
  refine enter Try.func87 rfl Try.ntmps87 rfl (St.init1 hp) ?_
  refine WC.seq ?_
  refine WC.region ?_
  refine WL.step ?_
  refine WL.assign rfl rfl ?_
  refine WL.nil ?_
  refine WQ.then_normal ?_
  refine WC.seq ?_
  refine WC.seq ?_
  refine WC.region ?_
  refine WL.step ?_
  refine WL.move rfl rfl ?_
  refine WL.step ?_
  refine WL.nilCheck rfl rfl ?_
  refine WL.step ?_
  refine WL.fieldAddr0 F.fld109_2 rfl rfl ?_
  refine WL.step ?_
  refine WL.loadP F.one9 rfl rfl (by repeat (first | exact List.Mem.head _ | apply List.Mem.tail)) rfl ?_
  refine WL.step ?_
  refine WL.move rfl rfl ?_
  refine WL.step ?_
  refine WL.neS rfl rfl rfl ?_
  refine WL.nil ?_
  refine WQ.then_normal ?_
  refine WC.cond rfl (fun h10 => ?_) (fun h10 => ?_)
  · skip
    have hne : wd ≠ s := by simpa using h10
    refine WC.seq ?_
    refine WC.region ?_
    refine WL.step ?_
    refine WL.assign rfl rfl ?_
    refine WL.nil ?_
    refine WQ.then_normal ?_
    refine WC.ret ?_
    refine WQ.then_ret ?_
    refine WQ.ret (rs := [.tmp 4]) rfl (.tmp rfl .nil) (fun w hS => ?_)
    rw [show Fm.takes text at_ wd s = .no by simp [Fm.takes, hne]]
    exact ⟨rfl, hS⟩
  · skip
    have hes : wd = s := by simpa using h10
    subst hes
    have hN := fun (w : World) (hp : w.heap[bp]? = some (.cells (pcell text at_ wd).toArray 109 (0, 0))) => next_c bp text wd at_ hle hmax w hp
    refine WC.skip ?_
    refine WQ.then_normal ?_
    refine WC.seq ?_
    rcases hn : Fm.next text at_ wd with ⟨a, x⟩ | a
    · skip
      rw [hn] at hN
      refine WC.region ?_
      refine WL.step ?_
      refine WL.move rfl rfl ?_
      refine WL.step ?_
      refine WL.call1S (bs' := pcell text a x) F.fun59 rfl rfl (by repeat (first | exact Rem.here | apply Rem.there)) (fun w hS => hN w (hS.heap (by repeat (first | exact List.Mem.head _ | apply List.Mem.tail)))) ?_
      refine WL.nil ?_
      refine WQ.then_normal ?_
      refine WC.seq ?_
      refine WC.region ?_
      refine WL.step ?_
      refine WL.assign rfl rfl ?_
      refine WL.nil ?_
      refine WQ.then_normal ?_
      refine WC.ret ?_
      refine WQ.ret (rs := [.tmp 4]) rfl (.tmp rfl .nil) (fun w hS => ?_)
      rw [takes_eq hn]
      exact ⟨rfl, hS⟩
    · skip
      rw [hn] at hN
      refine WC.region ?_
      refine WL.step ?_
      refine WL.move rfl rfl ?_
      refine WL.step ?_
      refine WL.call1P F.fun59 (fun d h => by cases h; rfl) rfl (by repeat (first | exact Rem.here | apply Rem.there)) (fun w hS => hN w (hS.heap (by repeat (first | exact List.Mem.head _ | apply List.Mem.tail)))) (fun cs => ?_)
      refine WQ.then_panic ?_
      refine WQ.panicked (fun w hS => ?_)
      rw [takes_bad hn]
      exact ⟨rfl, _, hS⟩

def MRpost (bp : Nat) (text : List UInt8) (at_ : Nat) (w : World) : Fm.TR → Ending → World → Prop
  | .no, e, w' => e = .panicked (trouble at_) ∧ ∃ cs, St w [bp] [pt bp cs 109] w'
  | .yes a x, e, w' => e = .returned (.tuple #[]) ∧ St w [bp] [pt bp (pcell text a x) 109] w'
  | .bad a, e, w' => e = .panicked (trouble a) ∧ ∃ cs, St w [bp] [pt bp cs 109] w'

theorem must_c (bp : Nat) (text wd s : List UInt8) (at_ : Nat) (hle : at_ + wd.length ≤ text.length) (hmax : text.length ≤ 140737488355328) (w : World) (hp : w.heap[bp]? = some (.cells (pcell text at_ wd).toArray 109 (0, 0))) :
    Calls Try.prog 88 [Value.pointer (some ⟨bp, 0, none⟩), .string (str s)].toArray w (MRpost bp text at_ w (Fm.takes text at_ wd s)) := by
  have hN := fun (w : World) (hp : w.heap[bp]? = some (.cells (pcell text at_ wd).toArray 109 (0, 0))) => takes_c bp text wd s at_ hle hmax w hp
  refine enter Try.func88 rfl Try.ntmps88 rfl (St.init1 hp) ?_
  refine WC.seq ?_
  rcases hn : Fm.takes text at_ wd s with _ | ⟨a, x⟩ | a
  · skip
    rw [hn] at hN
    refine WC.region ?_
    refine WL.step ?_
    refine WL.move rfl rfl ?_
    refine WL.step ?_
    refine WL.move rfl rfl ?_
    refine WL.step ?_
    refine WL.call1S (bs' := pcell text at_ wd) F.fun87 rfl rfl (by repeat (first | exact Rem.here | apply Rem.there)) (fun w hS => hN w (hS.heap (by repeat (first | exact List.Mem.head _ | apply List.Mem.tail)))) ?_
    refine WL.step ?_
    refine WL.not rfl rfl ?_
    refine WL.nil ?_
    refine WQ.then_normal ?_
    refine WC.condT rfl ?_
    refine WC.region ?_
    refine WL.step ?_
    refine WL.move rfl rfl ?_
    refine WL.step ?_
    refine WL.nilCheck rfl rfl ?_
    refine WL.step ?_
    refine WL.fieldAddr0 F.fld109_1 rfl rfl ?_
    refine WL.step ?_
    refine WL.loadP F.one3 rfl rfl (by repeat (first | exact List.Mem.head _ | apply List.Mem.tail)) rfl ?_
    refine WL.step ?_
    refine WL.build F.stT105 rfl (by repeat (first | exact Built.nil | apply Built.one rfl rfl (by repeat constructor) | apply Built.agg rfl rfl (by repeat constructor))) rfl ?_
    refine WL.step ?_
    refine WL.makeIface F.conc105 rfl rfl ?_
    refine WL.step ?_
    refine WL.panic rfl ?_
    refine WQ.panicked (fun w hS => ?_)
    exact ⟨rfl, _, hS⟩
  · skip
    rw [hn] at hN
    refine WC.region ?_
    refine WL.step ?_
    refine WL.move rfl rfl ?_
    refine WL.step ?_
    refine WL.move rfl rfl ?_
    refine WL.step ?_
    refine WL.call1S (bs' := pcell text a x) F.fun87 rfl rfl (by repeat (first | exact Rem.here | apply Rem.there)) (fun w hS => hN w (hS.heap (by repeat (first | exact List.Mem.head _ | apply List.Mem.tail)))) ?_
    refine WL.step ?_
    refine WL.not rfl rfl ?_
    refine WL.nil ?_
    refine WQ.then_normal ?_
    refine WC.condF rfl ?_
    refine WC.skip ?_
    refine WQ.fin (rs := []) rfl .nil (fun w hS => ?_)
    exact ⟨rfl, hS⟩
  · skip
    rw [hn] at hN
    refine WC.region ?_
    refine WL.step ?_
    refine WL.move rfl rfl ?_
    refine WL.step ?_
    refine WL.move rfl rfl ?_
    refine WL.step ?_
    refine WL.call1P F.fun87 (fun d h => by cases h; rfl) rfl (by repeat (first | exact Rem.here | apply Rem.there)) (fun w hS => hN w (hS.heap (by repeat (first | exact List.Mem.head _ | apply List.Mem.tail)))) (fun cs => ?_)
    refine WQ.then_panic ?_
    refine WQ.panicked (fun w hS => ?_)
    exact ⟨rfl, _, hS⟩

end Go.Proofs.Ytkgllhkhdjodeaa

namespace Go.Proofs.Ytkgllhkhdjodeaa
open Go Go.Eng Go.Proofs
theorem _root_.Go.Eng.St.one1 {w0 w : World} {O : List Nat} {c : Chunk} {C : List Chunk} (h : St w0 O (c :: C) w) : St w0 O [c] w := h.sublist (List.Sublist.cons_cons _ (List.nil_sublist _))
theorem _root_.Go.Eng.St.two2 {w0 w : World} {O : List Nat} {c d : Chunk} {C : List Chunk} (h : St w0 O (c :: d :: C) w) : St w0 O [c, d] w := h.sublist (List.Sublist.cons_cons _ (List.Sublist.cons_cons _ (List.nil_sublist _)))
def PC (bp : Nat) (text : List UInt8) (f : Nat) (args : List Value) (nt : Fm.NT) (n : Nat) : Prop :=
  ∀ a x r w, a + x.length ≤ text.length → Fm.parse text n nt a x = some r → w.heap[bp]? = some (.cells (pcell text a x).toArray 109 (0, 0)) → Calls Try.prog f args.toArray w (PRpost bp text w r)
abbrev pp (bp : Nat) : Value := .pointer (some ⟨bp, 0, none⟩)

theorem implies_c (bp : Nat) (text : List UInt8) (hmax : text.length ≤ 140737488355328) (n : Nat) (hsub : PC bp text 101 [pp bp, .int .i64 0] (.row 0) n) (hrec : PC bp text 96 [pp bp] .implies n) :
    PC bp text 96 [pp bp] .implies (n + 1) := by
  intro a x r w hle hr hp
  simp only [Fm.parse] at hr
  refine enter Try.func96 rfl Try.ntmps96 rfl (St.init1 hp) ?_
  refine WC.seq ?_
  refine WC.region ?_
  refine WL.step ?_
  refine WL.alloc F.zero74 rfl (fun b2 => ?_)
  refine WL.nil ?_
  refine WQ.then_normal ?_
  refine WC.seq ?_
  rcases Fm.bindP_ok hr with ⟨a1, h1, rfl⟩ | ⟨t1, a1, x1, h1, hr1⟩
  · skip
    have hN := fun w hp => hsub _ _ _ w hle h1 hp
    refine WC.region ?_
    refine WL.step ?_
    refine WL.move rfl rfl ?_
    refine WL.step ?_
    refine WL.call1P (bs := pcell text a x) F.fun101 (fun d h => by cases h; rfl) rfl (by repeat (first | exact Rem.here | apply Rem.there)) (fun w hS => hN w (hS.heap (by repeat (first | exact List.Mem.head _ | apply List.Mem.tail)))) (fun cs => ?_)
    refine WQ.then_panic ?_
    refine WQ.panicked (fun w hS => ?_)
    exact ⟨rfl, _, (St.pick hS (c := pt bp cs 109) (by repeat (first | exact Rem.here | apply Rem.there))).one1⟩
  · skip
    have hN := fun w hp => hsub _ _ _ w hle h1 hp
    have g1 := Fm.parse_le _ _ _ _ _ _ _ hle h1
    refine WC.region ?_
    refine WL.step ?_
    refine WL.move rfl rfl ?_
    refine WL.step ?_
    refine WL.call1A (res := fun y : List Nat × Option Addr × Nat => tv t1 y.2.1 y.2.2) (c1 := fun y : List Nat × Option Addr × Nat => own y.1 t1 (tv t1 y.2.1 y.2.2)) (c2 := fun _ => pt bp (pcell text a1 x1) 109) (bs := pcell text a x) F.fun101 rfl rfl (by repeat (first | exact Rem.here | apply Rem.there)) (fun w hS => hN w (hS.heap (by repeat (first | exact List.Mem.head _ | apply List.Mem.tail)))) (fun y5 => ?_)
    refine WL.step ?_
    refine WL.alloc F.zero74 rfl (fun b3 => ?_)
    refine WL.step ?_
    refine WL.storeN F.agg74 rfl rfl rfl (by simp [Value.oneCell']) (by repeat (first | exact Upd.here | apply Upd.there)) (by repeat constructor) ?_
    refine WL.nil ?_
    refine WQ.then_normal ?_
    refine WC.seq ?_
    refine WC.seq ?_
    rcases Fm.bindT_ok hr1 with ⟨ht, hr2⟩ | ⟨a2, x2, ht, hr2⟩ | ⟨a2, ht, rfl⟩
    · skip
      have hT := fun w hp => takes_c bp text x1 [61, 62] a1 g1.2 hmax w hp
      rw [ht] at hT
      injection hr2 with hr2
      subst hr2
      refine WC.region ?_
      refine WL.step ?_
      refine WL.move rfl rfl ?_
      refine WL.step ?_
      refine WL.call1S (bs := pcell text a1 x1) (bs' := pcell text a1 x1) F.fun87 rfl rfl (by repeat (first | exact Rem.here | apply Rem.there)) (fun w hS => hT w (hS.heap (by repeat (first | exact List.Mem.head _ | apply List.Mem.tail)))) ?_
      refine WL.step ?_
      refine WL.not rfl rfl ?_
      refine WL.nil ?_
      refine WQ.then_normal ?_
      refine WC.condT rfl ?_
      refine WC.seq ?_
      refine WC.region ?_
      refine WL.step ?_
      refine WL.loadW F.agg74 rfl rfl (by repeat (first | exact List.Mem.head _ | apply List.Mem.tail)) rfl ?_
      refine WL.step ?_
      refine WL.storeN F.agg74 rfl rfl rfl (by simp [Value.oneCell']) (by repeat (first | exact Upd.here | apply Upd.there)) (by repeat constructor) ?_
      refine WL.nil ?_
      refine WQ.then_normal ?_
      refine WC.ret ?_
      refine WQ.then_ret ?_
      refine WQ.ret (rs := [.cell 2 74]) rfl (.cellN F.agg74 rfl (by repeat (first | exact List.Mem.head _ | apply List.Mem.tail)) rfl .nil) (fun w hS => ?_)
      exact ⟨y5, rfl, (St.pick (St.pick hS (c := pt bp (pcell text a1 x1) 109) (by repeat (first | exact Rem.here | apply Rem.there))) (c := own y5.1 t1 (tv t1 y5.2.1 y5.2.2)) (by repeat (first | exact Rem.here | apply Rem.there))).two2⟩
    · skip
      have hT := fun w hp => takes_c bp text x1 [61, 62] a1 g1.2 hmax w hp
      rw [ht] at hT
      have g2 := Fm.takes_le g1.2 ht
      refine WC.region ?_
      refine WL.step ?_
      refine WL.move rfl rfl ?_
      refine WL.step ?_
      refine WL.call1S (bs := pcell text a1 x1) (bs' := pcell text a2 x2) F.fun87 rfl rfl (by repeat (first | exact Rem.here | apply Rem.there)) (fun w hS => hT w (hS.heap (by repeat (first | exact List.Mem.head _ | apply List.Mem.tail)))) ?_
      refine WL.step ?_
      refine WL.not rfl rfl ?_
      refine WL.nil ?_
      refine WQ.then_normal ?_
      refine WC.condF rfl ?_
      refine WC.skip ?_
      refine WQ.then_normal ?_
      refine WC.seq ?_
      rcases Fm.bindP_ok hr2 with ⟨a3, h3, rfl⟩ | ⟨t2, a3, x3, h3, hr3⟩
      · skip
        have hM := fun w hp => hrec _ _ _ w g2.2 h3 hp
        refine WC.draws [([3, 4, 5], fun w => ∀ j v, [Value.int .u8 t1.op, .string (str t1.name), .slice y5.2.1 t1.kids.length y5.2.2][j]? = some v → w.cell? ⟨b3, 0 + j, none⟩ = some v)] (by kernel_rfl) (fun w hS => facts_cons (fun j v hv => by rw [Nat.zero_add]; exact hS.cell (by repeat (first | exact List.Mem.head _ | apply List.Mem.tail)) hv) (facts_nil)) ?_
        refine WD.take (i := 0) rfl rfl rfl rfl (by kernel_rfl) (by kernel_rfl) (by kernel_rfl) (fun _ _ _ h => h) (by kernel_rfl) (need_at 0 6 rfl (by kernel_rfl)) (Yl.loadN F.agg74 rfl rfl) ?_
        refine WD.take (i := 1) rfl rfl rfl rfl (by kernel_rfl) (by kernel_rfl) (by kernel_rfl) (fun _ _ _ h => h) (by kernel_rfl) need_none (Yl.move rfl) ?_
        refine WD.one (i := 2) (by kernel_rfl) rfl ?_
        refine WL.call1P (bs := pcell text a2 x2) F.fun96 (fun d h => by cases h; rfl) rfl (by repeat (first | exact Rem.here | apply Rem.there)) (fun w hS => hM w (hS.heap (by repeat (first | exact List.Mem.head _ | apply List.Mem.tail)))) (fun cs => ?_)
        refine WQ.then_panic ?_
        refine WQ.panicked (fun w hS => ?_)
        exact ⟨rfl, _, (St.pick hS (c := pt bp cs 109) (by repeat (first | exact Rem.here | apply Rem.there))).one1⟩
      · skip
        have hM := fun w hp => hrec _ _ _ w g2.2 h3 hp
        injection hr3 with hr3
        subst hr3
        refine WC.draws [([3, 4, 5], fun w => ∀ j v, [Value.int .u8 t1.op, .string (str t1.name), .slice y5.2.1 t1.kids.length y5.2.2][j]? = some v → w.cell? ⟨b3, 0 + j, none⟩ = some v)] (by kernel_rfl) (fun w hS => facts_cons (fun j v hv => by rw [Nat.zero_add]; exact hS.cell (by repeat (first | exact List.Mem.head _ | apply List.Mem.tail)) hv) (facts_nil)) ?_
        refine WD.take (i := 0) rfl rfl rfl rfl (by kernel_rfl) (by kernel_rfl) (by kernel_rfl) (fun _ _ _ h => h) (by kernel_rfl) (need_at 0 6 rfl (by kernel_rfl)) (Yl.loadN F.agg74 rfl rfl) ?_
        refine WD.take (i := 1) rfl rfl rfl rfl (by kernel_rfl) (by kernel_rfl) (by kernel_rfl) (fun _ _ _ h => h) (by kernel_rfl) need_none (Yl.move rfl) ?_
        refine WD.one (i := 2) (by kernel_rfl) rfl ?_
        refine WL.call1A (res := fun y : List Nat × Option Addr × Nat => tv t2 y.2.1 y.2.2) (c1 := fun y : List Nat × Option Addr × Nat => own y.1 t2 (tv t2 y.2.1 y.2.2)) (c2 := fun _ => pt bp (pcell text a3 x3) 109) (bs := pcell text a2 x2) F.fun96 rfl rfl (by repeat (first | exact Rem.here | apply Rem.there)) (fun w hS => hM w (hS.heap (by repeat (first | exact List.Mem.head _ | apply List.Mem.tail)))) (fun y12 => ?_)
        refine WD.on (closed_of (by kernel_rfl)) (fun w hS => Sx.keep (fun j v hv => by rw [Nat.zero_add]; exact hS.cell (by repeat (first | exact List.Mem.head _ | apply List.Mem.tail)) hv) (Sx.none)) ?_
        refine WD.one (i := 3) (by kernel_rfl) rfl ?_
        refine WL.buildSlice F.sl72 F.ez72 rfl rfl rfl rfl (by repeat (first | exact Built.nil | apply Built.one rfl rfl (by repeat constructor) | apply Built.agg rfl rfl (by repeat constructor))) rfl (fun b13 => ?_)
        refine WD.on (closed_of (by kernel_rfl)) (fun w hS => Sx.gone rfl (Sx.none)) ?_
        refine WD.one (i := 4) (by kernel_rfl) rfl ?_
        refine WL.callV F.fun89 rfl rfl (fun w _ => node_c _ _ _ _ w) ?_
        refine WD.on (closed_of (by kernel_rfl)) (fun w hS => Sx.gone rfl (Sx.none)) ?_
        refine WD.one (i := 5) (by kernel_rfl) rfl ?_
        refine WL.storeN F.agg74 rfl rfl rfl (by simp [Value.oneCell']) (by repeat (first | exact Upd.here | apply Upd.there)) (by repeat constructor) ?_
        refine WD.on (closed_of (by kernel_rfl)) (fun w hS => Sx.gone rfl (Sx.none)) ?_
        refine WD.done (by kernel_rfl) ?_
        refine WQ.then_normal ?_
        refine WC.ret ?_
        refine WQ.ret (rs := [.cell 2 74]) rfl (.cellN F.agg74 rfl (by repeat (first | exact List.Mem.head _ | apply List.Mem.tail)) rfl .nil) (fun w hS => ?_)
        obtain ⟨F, h⟩ := St.node2 8 (St.pick (St.pick (St.pick (St.pick hS (c := pt bp (pcell text a3 x3) 109) (by repeat (first | exact Rem.here | apply Rem.there))) (c := own y12.1 t2 (tv t2 y12.2.1 y12.2.2)) (by repeat (first | exact Rem.here | apply Rem.there))) (c := own y5.1 t1 (tv t1 y5.2.1 y5.2.2)) (by repeat (first | exact Rem.here | apply Rem.there))) (c := pt b13 [.int .u8 t1.op, .string (str t1.name), .slice y5.2.1 t1.kids.length y5.2.2, .int .u8 t2.op, .string (str t2.name), .slice y12.2.1 t2.kids.length y12.2.2] 74) (by repeat (first | exact Rem.here | apply Rem.there)))
        exact ⟨(F, _, _), rfl, h.two2⟩
    · skip
      have hT := fun w hp => takes_c bp text x1 [61, 62] a1 g1.2 hmax w hp
      rw [ht] at hT
      refine WC.region ?_
      refine WL.step ?_
      refine WL.move rfl rfl ?_
      refine WL.step ?_
      refine WL.call1P (bs := pcell text a1 x1) F.fun87 (fun d h => by cases h; rfl) rfl (by repeat (first | exact Rem.here | apply Rem.there)) (fun w hS => hT w (hS.heap (by repeat (first | exact List.Mem.head _ | apply List.Mem.tail)))) (fun cs => ?_)
      refine WQ.then_panic ?_
      refine WQ.then_panic ?_
      refine WQ.panicked (fun w hS => ?_)
      exact ⟨rfl, _, (St.pick hS (c := pt bp cs 109) (by repeat (first | exact Rem.here | apply Rem.there))).one1⟩

theorem same_c (bp : Nat) (text : List UInt8) (hmax : text.length ≤ 140737488355328) (n : Nat) (hsub : PC bp text 96 [pp bp] .implies n) (hrec : PC bp text 96 [pp bp] .implies n) :
    PC bp text 86 [pp bp] .same (n + 1) := by
  intro a x r w hle hr hp
  simp only [Fm.parse] at hr
  refine enter Try.func86 rfl Try.ntmps86 rfl (St.init1 hp) ?_
  refine WC.seq ?_
  refine WC.region ?_
  refine WL.step ?_
  refine WL.alloc F.zero74 rfl (fun b2 => ?_)
  refine WL.nil ?_
  refine WQ.then_normal ?_
  refine WC.seq ?_
  rcases Fm.bindP_ok hr with ⟨a1, h1, rfl⟩ | ⟨t1, a1, x1, h1, hr1⟩
  · skip
    have hN := fun w hp => hsub _ _ _ w hle h1 hp
    refine WC.region ?_
    refine WL.step ?_
    refine WL.move rfl rfl ?_
    refine WL.step ?_
    refine WL.call1P (bs := pcell text a x) F.fun96 (fun d h => by cases h; rfl) rfl (by repeat (first | exact Rem.here | apply Rem.there)) (fun w hS => hN w (hS.heap (by repeat (first | exact List.Mem.head _ | apply List.Mem.tail)))) (fun cs => ?_)
    refine WQ.then_panic ?_
    refine WQ.panicked (fun w hS => ?_)
    exact ⟨rfl, _, (St.pick hS (c := pt bp cs 109) (by repeat (first | exact Rem.here | apply Rem.there))).one1⟩
  · skip
    have hN := fun w hp => hsub _ _ _ w hle h1 hp
    have g1 := Fm.parse_le _ _ _ _ _ _ _ hle h1
    refine WC.region ?_
    refine WL.step ?_
    refine WL.move rfl rfl ?_
    refine WL.step ?_
    refine WL.call1A (res := fun y : List Nat × Option Addr × Nat => tv t1 y.2.1 y.2.2) (c1 := fun y : List Nat × Option Addr × Nat => own y.1 t1 (tv t1 y.2.1 y.2.2)) (c2 := fun _ => pt bp (pcell text a1 x1) 109) (bs := pcell text a x) F.fun96 rfl rfl (by repeat (first | exact Rem.here | apply Rem.there)) (fun w hS => hN w (hS.heap (by repeat (first | exact List.Mem.head _ | apply List.Mem.tail)))) (fun y5 => ?_)
    refine WL.step ?_
    refine WL.alloc F.zero74 rfl (fun b3 => ?_)
    refine WL.step ?_
    refine WL.storeN F.agg74 rfl rfl rfl (by simp [Value.oneCell']) (by repeat (first | exact Upd.here | apply Upd.there)) (by repeat constructor) ?_
    refine WL.nil ?_
    refine WQ.then_normal ?_
    refine WC.seq ?_
    refine WC.seq ?_
    rcases Fm.bindT_ok hr1 with ⟨ht, hr2⟩ | ⟨a2, x2, ht, hr2⟩ | ⟨a2, ht, rfl⟩
    · skip
      have hT := fun w hp => takes_c bp text x1 [60, 61, 62] a1 g1.2 hmax w hp
      rw [ht] at hT
      injection hr2 with hr2
      subst hr2
      refine WC.region ?_
      refine WL.step ?_
      refine WL.move rfl rfl ?_
      refine WL.step ?_
      refine WL.call1S (bs := pcell text a1 x1) (bs' := pcell text a1 x1) F.fun87 rfl rfl (by repeat (first | exact Rem.here | apply Rem.there)) (fun w hS => hT w (hS.heap (by repeat (first | exact List.Mem.head _ | apply List.Mem.tail)))) ?_
      refine WL.step ?_
      refine WL.not rfl rfl ?_
      refine WL.nil ?_
      refine WQ.then_normal ?_
      refine WC.condT rfl ?_
      refine WC.seq ?_
      refine WC.region ?_
      refine WL.step ?_
      refine WL.loadW F.agg74 rfl rfl (by repeat (first | exact List.Mem.head _ | apply List.Mem.tail)) rfl ?_
      refine WL.step ?_
      refine WL.storeN F.agg74 rfl rfl rfl (by simp [Value.oneCell']) (by repeat (first | exact Upd.here | apply Upd.there)) (by repeat constructor) ?_
      refine WL.nil ?_
      refine WQ.then_normal ?_
      refine WC.ret ?_
      refine WQ.then_ret ?_
      refine WQ.ret (rs := [.cell 2 74]) rfl (.cellN F.agg74 rfl (by repeat (first | exact List.Mem.head _ | apply List.Mem.tail)) rfl .nil) (fun w hS => ?_)
      exact ⟨y5, rfl, (St.pick (St.pick hS (c := pt bp (pcell text a1 x1) 109) (by repeat (first | exact Rem.here | apply Rem.there))) (c := own y5.1 t1 (tv t1 y5.2.1 y5.2.2)) (by repeat (first | exact Rem.here | apply Rem.there))).two2⟩
    · skip
      have hT := fun w hp => takes_c bp text x1 [60, 61, 62] a1 g1.2 hmax w hp
      rw [ht] at hT
      have g2 := Fm.takes_le g1.2 ht
      refine WC.region ?_
      refine WL.step ?_
      refine WL.move rfl rfl ?_
      refine WL.step ?_
      refine WL.call1S (bs := pcell text a1 x1) (bs' := pcell text a2 x2) F.fun87 rfl rfl (by repeat (first | exact Rem.here | apply Rem.there)) (fun w hS => hT w (hS.heap (by repeat (first | exact List.Mem.head _ | apply List.Mem.tail)))) ?_
      refine WL.step ?_
      refine WL.not rfl rfl ?_
      refine WL.nil ?_
      refine WQ.then_normal ?_
      refine WC.condF rfl ?_
      refine WC.skip ?_
      refine WQ.then_normal ?_
      refine WC.seq ?_
      rcases Fm.bindP_ok hr2 with ⟨a3, h3, rfl⟩ | ⟨t2, a3, x3, h3, hr3⟩
      · skip
        have hM := fun w hp => hrec _ _ _ w g2.2 h3 hp
        refine WC.draws [([3, 4, 5], fun w => ∀ j v, [Value.int .u8 t1.op, .string (str t1.name), .slice y5.2.1 t1.kids.length y5.2.2][j]? = some v → w.cell? ⟨b3, 0 + j, none⟩ = some v)] (by kernel_rfl) (fun w hS => facts_cons (fun j v hv => by rw [Nat.zero_add]; exact hS.cell (by repeat (first | exact List.Mem.head _ | apply List.Mem.tail)) hv) (facts_nil)) ?_
        refine WD.take (i := 0) rfl rfl rfl rfl (by kernel_rfl) (by kernel_rfl) (by kernel_rfl) (fun _ _ _ h => h) (by kernel_rfl) (need_at 0 6 rfl (by kernel_rfl)) (Yl.loadN F.agg74 rfl rfl) ?_
        refine WD.take (i := 1) rfl rfl rfl rfl (by kernel_rfl) (by kernel_rfl) (by kernel_rfl) (fun _ _ _ h => h) (by kernel_rfl) need_none (Yl.move rfl) ?_
        refine WD.one (i := 2) (by kernel_rfl) rfl ?_
        refine WL.call1P (bs := pcell text a2 x2) F.fun96 (fun d h => by cases h; rfl) rfl (by repeat (first | exact Rem.here | apply Rem.there)) (fun w hS => hM w (hS.heap (by repeat (first | exact List.Mem.head _ | apply List.Mem.tail)))) (fun cs => ?_)
        refine WQ.then_panic ?_
        refine WQ.panicked (fun w hS => ?_)
        exact ⟨rfl, _, (St.pick hS (c := pt bp cs 109) (by repeat (first | exact Rem.here | apply Rem.there))).one1⟩
      · skip
        have hM := fun w hp => hrec _ _ _ w g2.2 h3 hp
        injection hr3 with hr3
        subst hr3
        refine WC.draws [([3, 4, 5], fun w => ∀ j v, [Value.int .u8 t1.op, .string (str t1.name), .slice y5.2.1 t1.kids.length y5.2.2][j]? = some v → w.cell? ⟨b3, 0 + j, none⟩ = some v)] (by kernel_rfl) (fun w hS => facts_cons (fun j v hv => by rw [Nat.zero_add]; exact hS.cell (by repeat (first | exact List.Mem.head _ | apply List.Mem.tail)) hv) (facts_nil)) ?_
        refine WD.take (i := 0) rfl rfl rfl rfl (by kernel_rfl) (by kernel_rfl) (by kernel_rfl) (fun _ _ _ h => h) (by kernel_rfl) (need_at 0 6 rfl (by kernel_rfl)) (Yl.loadN F.agg74 rfl rfl) ?_
        refine WD.take (i := 1) rfl rfl rfl rfl (by kernel_rfl) (by kernel_rfl) (by kernel_rfl) (fun _ _ _ h => h) (by kernel_rfl) need_none (Yl.move rfl) ?_
        refine WD.one (i := 2) (by kernel_rfl) rfl ?_
        refine WL.call1A (res := fun y : List Nat × Option Addr × Nat => tv t2 y.2.1 y.2.2) (c1 := fun y : List Nat × Option Addr × Nat => own y.1 t2 (tv t2 y.2.1 y.2.2)) (c2 := fun _ => pt bp (pcell text a3 x3) 109) (bs := pcell text a2 x2) F.fun96 rfl rfl (by repeat (first | exact Rem.here | apply Rem.there)) (fun w hS => hM w (hS.heap (by repeat (first | exact List.Mem.head _ | apply List.Mem.tail)))) (fun y12 => ?_)
        refine WD.on (closed_of (by kernel_rfl)) (fun w hS => Sx.keep (fun j v hv => by rw [Nat.zero_add]; exact hS.cell (by repeat (first | exact List.Mem.head _ | apply List.Mem.tail)) hv) (Sx.none)) ?_
        refine WD.one (i := 3) (by kernel_rfl) rfl ?_
        refine WL.buildSlice F.sl72 F.ez72 rfl rfl rfl rfl (by repeat (first | exact Built.nil | apply Built.one rfl rfl (by repeat constructor) | apply Built.agg rfl rfl (by repeat constructor))) rfl (fun b13 => ?_)
        refine WD.on (closed_of (by kernel_rfl)) (fun w hS => Sx.gone rfl (Sx.none)) ?_
        refine WD.one (i := 4) (by kernel_rfl) rfl ?_
        refine WL.callV F.fun89 rfl rfl (fun w _ => node_c _ _ _ _ w) ?_
        refine WD.on (closed_of (by kernel_rfl)) (fun w hS => Sx.gone rfl (Sx.none)) ?_
        refine WD.one (i := 5) (by kernel_rfl) rfl ?_
        refine WL.storeN F.agg74 rfl rfl rfl (by simp [Value.oneCell']) (by repeat (first | exact Upd.here | apply Upd.there)) (by repeat constructor) ?_
        refine WD.on (closed_of (by kernel_rfl)) (fun w hS => Sx.gone rfl (Sx.none)) ?_
        refine WD.done (by kernel_rfl) ?_
        refine WQ.then_normal ?_
        refine WC.ret ?_
        refine WQ.ret (rs := [.cell 2 74]) rfl (.cellN F.agg74 rfl (by repeat (first | exact List.Mem.head _ | apply List.Mem.tail)) rfl .nil) (fun w hS => ?_)
        obtain ⟨F, h⟩ := St.node2 9 (St.pick (St.pick (St.pick (St.pick hS (c := pt bp (pcell text a3 x3) 109) (by repeat (first | exact Rem.here | apply Rem.there))) (c := own y12.1 t2 (tv t2 y12.2.1 y12.2.2)) (by repeat (first | exact Rem.here | apply Rem.there))) (c := own y5.1 t1 (tv t1 y5.2.1 y5.2.2)) (by repeat (first | exact Rem.here | apply Rem.there))) (c := pt b13 [.int .u8 t1.op, .string (str t1.name), .slice y5.2.1 t1.kids.length y5.2.2, .int .u8 t2.op, .string (str t2.name), .slice y12.2.1 t2.kids.length y12.2.2] 74) (by repeat (first | exact Rem.here | apply Rem.there)))
        exact ⟨(F, _, _), rfl, h.two2⟩
    · skip
      have hT := fun w hp => takes_c bp text x1 [60, 61, 62] a1 g1.2 hmax w hp
      rw [ht] at hT
      refine WC.region ?_
      refine WL.step ?_
      refine WL.move rfl rfl ?_
      refine WL.step ?_
      refine WL.call1P (bs := pcell text a1 x1) F.fun87 (fun d h => by cases h; rfl) rfl (by repeat (first | exact Rem.here | apply Rem.there)) (fun w hS => hT w (hS.heap (by repeat (first | exact List.Mem.head _ | apply List.Mem.tail)))) (fun cs => ?_)
      refine WQ.then_panic ?_
      refine WQ.then_panic ?_
      refine WQ.panicked (fun w hS => ?_)
      exact ⟨rfl, _, (St.pick hS (c := pt bp cs 109) (by repeat (first | exact Rem.here | apply Rem.there))).one1⟩

theorem choice_c (bp : Nat) (text : List UInt8) (hmax : text.length ≤ 140737488355328) (n : Nat) (hsame : PC bp text 86 [pp bp] .same n) (hch : PC bp text 60 [pp bp] .choice n) :
    PC bp text 60 [pp bp] .choice (n + 1) := by
  intro a x r w hle hr hp
  simp only [Fm.parse] at hr
  refine enter Try.func60 rfl Try.ntmps60 rfl (St.init1 hp) ?_
  refine WC.seq ?_
  refine WC.region ?_
  refine WL.step ?_
  refine WL.alloc F.zero74 rfl (fun b2 => ?_)
  refine WL.nil ?_
  refine WQ.then_normal ?_
  refine WC.seq ?_
  rcases Fm.bindP_ok hr with ⟨a1, h1, rfl⟩ | ⟨t1, a1, x1, h1, hr1⟩
  · skip
    have hN := fun w hp => hsame _ _ _ w hle h1 hp
    refine WC.region ?_
    refine WL.step ?_
    refine WL.move rfl rfl ?_
    refine WL.step ?_
    refine WL.call1P (bs := pcell text a x) F.fun86 (fun d h => by cases h; rfl) rfl (by repeat (first | exact Rem.here | apply Rem.there)) (fun w hS => hN w (hS.heap (by repeat (first | exact List.Mem.head _ | apply List.Mem.tail)))) (fun cs => ?_)
    refine WQ.then_panic ?_
    refine WQ.panicked (fun w hS => ?_)
    exact ⟨rfl, _, (St.pick hS (c := pt bp cs 109) (by repeat (first | exact Rem.here | apply Rem.there))).one1⟩
  · skip
    have hN := fun w hp => hsame _ _ _ w hle h1 hp
    have g1 := Fm.parse_le _ _ _ _ _ _ _ hle h1
    refine WC.region ?_
    refine WL.step ?_
    refine WL.move rfl rfl ?_
    refine WL.step ?_
    refine WL.call1A (res := fun y : List Nat × Option Addr × Nat => tv t1 y.2.1 y.2.2) (c1 := fun y : List Nat × Option Addr × Nat => own y.1 t1 (tv t1 y.2.1 y.2.2)) (c2 := fun _ => pt bp (pcell text a1 x1) 109) (bs := pcell text a x) F.fun86 rfl rfl (by repeat (first | exact Rem.here | apply Rem.there)) (fun w hS => hN w (hS.heap (by repeat (first | exact List.Mem.head _ | apply List.Mem.tail)))) (fun y6 => ?_)
    refine WL.step ?_
    refine WL.alloc F.zero74 rfl (fun b3 => ?_)
    refine WL.step ?_
    refine WL.storeN F.agg74 rfl rfl rfl (by simp [Value.oneCell']) (by repeat (first | exact Upd.here | apply Upd.there)) (by repeat constructor) ?_
    refine WL.nil ?_
    refine WQ.then_normal ?_
    refine WC.seq ?_
    refine WC.seq ?_
    rcases Fm.bindT_ok hr1 with ⟨ht, hr2⟩ | ⟨a2, x2, ht, hr2⟩ | ⟨a2, ht, rfl⟩
    · skip
      have hT := fun w hp => takes_c bp text x1 [63] a1 g1.2 hmax w hp
      rw [ht] at hT
      injection hr2 with hr2
      subst hr2
      refine WC.region ?_
      refine WL.step ?_
      refine WL.move rfl rfl ?_
      refine WL.step ?_
      refine WL.call1S (bs := pcell text a1 x1) (bs' := pcell text a1 x1) F.fun87 rfl rfl (by repeat (first | exact Rem.here | apply Rem.there)) (fun w hS => hT w (hS.heap (by repeat (first | exact List.Mem.head _ | apply List.Mem.tail)))) ?_
      refine WL.step ?_
      refine WL.not rfl rfl ?_
      refine WL.nil ?_
      refine WQ.then_normal ?_
      refine WC.condT rfl ?_
      refine WC.seq ?_
      refine WC.region ?_
      refine WL.step ?_
      refine WL.loadW F.agg74 rfl rfl (by repeat (first | exact List.Mem.head _ | apply List.Mem.tail)) rfl ?_
      refine WL.step ?_
      refine WL.storeN F.agg74 rfl rfl rfl (by simp [Value.oneCell']) (by repeat (first | exact Upd.here | apply Upd.there)) (by repeat constructor) ?_
      refine WL.nil ?_
      refine WQ.then_normal ?_
      refine WC.ret ?_
      refine WQ.then_ret ?_
      refine WQ.ret (rs := [.cell 2 74]) rfl (.cellN F.agg74 rfl (by repeat (first | exact List.Mem.head _ | apply List.Mem.tail)) rfl .nil) (fun w hS => ?_)
      exact ⟨y6, rfl, (St.pick (St.pick hS (c := pt bp (pcell text a1 x1) 109) (by repeat (first | exact Rem.here | apply Rem.there))) (c := own y6.1 t1 (tv t1 y6.2.1 y6.2.2)) (by repeat (first | exact Rem.here | apply Rem.there))).two2⟩
    · skip
      have hT := fun w hp => takes_c bp text x1 [63] a1 g1.2 hmax w hp
      rw [ht] at hT
      have g2 := Fm.takes_le g1.2 ht
      refine WC.region ?_
      refine WL.step ?_
      refine WL.move rfl rfl ?_
      refine WL.step ?_
      refine WL.call1S (bs := pcell text a1 x1) (bs' := pcell text a2 x2) F.fun87 rfl rfl (by repeat (first | exact Rem.here | apply Rem.there)) (fun w hS => hT w (hS.heap (by repeat (first | exact List.Mem.head _ | apply List.Mem.tail)))) ?_
      refine WL.step ?_
      refine WL.not rfl rfl ?_
      refine WL.nil ?_
      refine WQ.then_normal ?_
      refine WC.condF rfl ?_
      refine WC.skip ?_
      refine WQ.then_normal ?_
      refine WC.seq ?_
      rcases Fm.bindP_ok hr2 with ⟨a3, h3, rfl⟩ | ⟨t2, a3, x3, h3, hr3⟩
      · skip
        have hM := fun w hp => hch _ _ _ w g2.2 h3 hp
        refine WC.region ?_
        refine WL.step ?_
        refine WL.move rfl rfl ?_
        refine WL.step ?_
        refine WL.call1P (bs := pcell text a2 x2) F.fun60 (fun d h => by cases h; rfl) rfl (by repeat (first | exact Rem.here | apply Rem.there)) (fun w hS => hM w (hS.heap (by repeat (first | exact List.Mem.head _ | apply List.Mem.tail)))) (fun cs => ?_)
        refine WQ.then_panic ?_
        refine WQ.panicked (fun w hS => ?_)
        exact ⟨rfl, _, (St.pick hS (c := pt bp cs 109) (by repeat (first | exact Rem.here | apply Rem.there))).one1⟩
      · skip
        have hM := fun w hp => hch _ _ _ w g2.2 h3 hp
        have g3 := Fm.parse_le _ _ _ _ _ _ _ g2.2 h3
        refine WC.region ?_
        refine WL.step ?_
        refine WL.move rfl rfl ?_
        refine WL.step ?_
        refine WL.call1A (res := fun y : List Nat × Option Addr × Nat => tv t2 y.2.1 y.2.2) (c1 := fun y : List Nat × Option Addr × Nat => own y.1 t2 (tv t2 y.2.1 y.2.2)) (c2 := fun _ => pt bp (pcell text a3 x3) 109) (bs := pcell text a2 x2) F.fun60 rfl rfl (by repeat (first | exact Rem.here | apply Rem.there)) (fun w hS => hM w (hS.heap (by repeat (first | exact List.Mem.head _ | apply List.Mem.tail)))) (fun y12 => ?_)
        refine WL.step ?_
        refine WL.alloc F.zero74 rfl (fun b4 => ?_)
        refine WL.step ?_
        refine WL.storeN F.agg74 rfl rfl rfl (by simp [Value.oneCell']) (by repeat (first | exact Upd.here | apply Upd.there)) (by repeat constructor) ?_
        refine WL.nil ?_
        refine WQ.then_normal ?_
        refine WC.seq ?_
        rcases Fm.bindT_ok hr3 with ⟨ht, hr4⟩ | ⟨a4, x4, ht, hr4⟩ | ⟨a4, ht, rfl⟩
        · skip
          clear hT
          have hT := fun w hp => must_c bp text x3 [58] a3 g3.2 hmax w hp
          rw [ht] at hT
          injection hr4 with hr4
          subst hr4
          refine WC.region ?_
          refine WL.step ?_
          refine WL.move rfl rfl ?_
          refine WL.step ?_
          refine WL.call1P (bs := pcell text a3 x3) F.fun88 (fun d h => by cases h; rfl) rfl (by repeat (first | exact Rem.here | apply Rem.there)) (fun w hS => hT w (hS.heap (by repeat (first | exact List.Mem.head _ | apply List.Mem.tail)))) (fun cs => ?_)
          refine WQ.then_panic ?_
          refine WQ.panicked (fun w hS => ?_)
          exact ⟨rfl, _, (St.pick hS (c := pt bp cs 109) (by repeat (first | exact Rem.here | apply Rem.there))).one1⟩
        · skip
          clear hT
          have hT := fun w hp => must_c bp text x3 [58] a3 g3.2 hmax w hp
          rw [ht] at hT
          have g4 := Fm.takes_le g3.2 ht
          refine WC.region ?_
          refine WL.step ?_
          refine WL.move rfl rfl ?_
          refine WL.step ?_
          refine WL.call1S (bs := pcell text a3 x3) (bs' := pcell text a4 x4) F.fun88 rfl rfl (by repeat (first | exact Rem.here | apply Rem.there)) (fun w hS => hT w (hS.heap (by repeat (first | exact List.Mem.head _ | apply List.Mem.tail)))) ?_
          refine WL.nil ?_
          refine WQ.then_normal ?_
          refine WC.seq ?_
          rcases Fm.bindP_ok hr4 with ⟨a5, h5, rfl⟩ | ⟨t3, a5, x5, h5, hr5⟩
          · skip
            have hM2 := fun w hp => hch _ _ _ w g4.2 h5 hp
            refine WC.draws [([4, 5, 6], fun w => ∀ j v, [Value.int .u8 t1.op, .string (str t1.name), .slice y6.2.1 t1.kids.length y6.2.2][j]? = some v → w.cell? ⟨b3, 0 + j, none⟩ = some v), ([4, 5, 6], fun w => ∀ j v, [Value.int .u8 t2.op, .string (str t2.name), .slice y12.2.1 t2.kids.length y12.2.2][j]? = some v → w.cell? ⟨b4, 0 + j, none⟩ = some v)] (by kernel_rfl) (fun w hS => facts_cons (fun j v hv => by rw [Nat.zero_add]; exact hS.cell (by repeat (first | exact List.Mem.head _ | apply List.Mem.tail)) hv) (facts_cons (fun j v hv => by rw [Nat.zero_add]; exact hS.cell (by repeat (first | exact List.Mem.head _ | apply List.Mem.tail)) hv) (facts_nil))) ?_
            refine WD.take (i := 0) rfl rfl rfl rfl (by kernel_rfl) (by kernel_rfl) (by kernel_rfl) (fun _ _ _ h => h) (by kernel_rfl) (need_at 0 7 rfl (by kernel_rfl)) (Yl.loadN F.agg74 rfl rfl) ?_
            refine WD.take (i := 1) rfl rfl rfl rfl (by kernel_rfl) (by kernel_rfl) (by kernel_rfl) (fun _ _ _ h => h) (by kernel_rfl) (need_at 1 7 rfl (by kernel_rfl)) (Yl.loadN F.agg74 rfl rfl) ?_
            refine WD.take (i := 2) rfl rfl rfl rfl (by kernel_rfl) (by kernel_rfl) (by kernel_rfl) (fun _ _ _ h => h) (by kernel_rfl) need_none (Yl.move rfl) ?_
            refine WD.one (i := 3) (by kernel_rfl) rfl ?_
            refine WL.call1P (bs := pcell text a4 x4) F.fun60 (fun d h => by cases h; rfl) rfl (by repeat (first | exact Rem.here | apply Rem.there)) (fun w hS => hM2 w (hS.heap (by repeat (first | exact List.Mem.head _ | apply List.Mem.tail)))) (fun cs => ?_)
            refine WQ.then_panic ?_
            refine WQ.panicked (fun w hS => ?_)
            exact ⟨rfl, _, (St.pick hS (c := pt bp cs 109) (by repeat (first | exact Rem.here | apply Rem.there))).one1⟩
          · skip
            have hM2 := fun w hp => hch _ _ _ w g4.2 h5 hp
            injection hr5 with hr5
            subst hr5
            refine WC.draws [([4, 5, 6], fun w => ∀ j v, [Value.int .u8 t1.op, .string (str t1.name), .slice y6.2.1 t1.kids.length y6.2.2][j]? = some v → w.cell? ⟨b3, 0 + j, none⟩ = some v), ([4, 5, 6], fun w => ∀ j v, [Value.int .u8 t2.op, .string (str t2.name), .slice y12.2.1 t2.kids.length y12.2.2][j]? = some v → w.cell? ⟨b4, 0 + j, none⟩ = some v)] (by kernel_rfl) (fun w hS => facts_cons (fun j v hv => by rw [Nat.zero_add]; exact hS.cell (by repeat (first | exact List.Mem.head _ | apply List.Mem.tail)) hv) (facts_cons (fun j v hv => by rw [Nat.zero_add]; exact hS.cell (by repeat (first | exact List.Mem.head _ | apply List.Mem.tail)) hv) (facts_nil))) ?_
            refine WD.take (i := 0) rfl rfl rfl rfl (by kernel_rfl) (by kernel_rfl) (by kernel_rfl) (fun _ _ _ h => h) (by kernel_rfl) (need_at 0 7 rfl (by kernel_rfl)) (Yl.loadN F.agg74 rfl rfl) ?_
            refine WD.take (i := 1) rfl rfl rfl rfl (by kernel_rfl) (by kernel_rfl) (by kernel_rfl) (fun _ _ _ h => h) (by kernel_rfl) (need_at 1 7 rfl (by kernel_rfl)) (Yl.loadN F.agg74 rfl rfl) ?_
            refine WD.take (i := 2) rfl rfl rfl rfl (by kernel_rfl) (by kernel_rfl) (by kernel_rfl) (fun _ _ _ h => h) (by kernel_rfl) need_none (Yl.move rfl) ?_
            refine WD.one (i := 3) (by kernel_rfl) rfl ?_
            refine WL.call1A (res := fun y : List Nat × Option Addr × Nat => tv t3 y.2.1 y.2.2) (c1 := fun y : List Nat × Option Addr × Nat => own y.1 t3 (tv t3 y.2.1 y.2.2)) (c2 := fun _ => pt bp (pcell text a5 x5) 109) (bs := pcell text a4 x4) F.fun60 rfl rfl (by repeat (first | exact Rem.here | apply Rem.there)) (fun w hS => hM2 w (hS.heap (by repeat (first | exact List.Mem.head _ | apply List.Mem.tail)))) (fun y18 => ?_)
            refine WD.on (closed_of (by kernel_rfl)) (fun w hS => Sx.keep (fun j v hv => by rw [Nat.zero_add]; exact hS.cell (by repeat (first | exact List.Mem.head _ | apply List.Mem.tail)) hv) (Sx.keep (fun j v hv => by rw [Nat.zero_add]; exact hS.cell (by repeat (first | exact List.Mem.head _ | apply List.Mem.tail)) hv) (Sx.none))) ?_
            refine WD.one (i := 4) (by kernel_rfl) rfl ?_
            refine WL.buildSlice F.sl72 F.ez72 rfl rfl rfl rfl (by repeat (first | exact Built.nil | apply Built.one rfl rfl (by repeat constructor) | apply Built.agg rfl rfl (by repeat constructor))) rfl (fun b19 => ?_)
            refine WD.on (closed_of (by kernel_rfl)) (fun w hS => Sx.gone rfl (Sx.gone rfl (Sx.none))) ?_
            refine WD.one (i := 5) (by kernel_rfl) rfl ?_
            refine WL.callV F.fun89 rfl rfl (fun w _ => node_c _ _ _ _ w) ?_
            refine WD.on (closed_of (by kernel_rfl)) (fun w hS => Sx.gone rfl (Sx.gone rfl (Sx.none))) ?_
            refine WD.one (i := 6) (by kernel_rfl) rfl ?_
            refine WL.storeN F.agg74 rfl rfl rfl (by simp [Value.oneCell']) (by repeat (first | exact Upd.here | apply Upd.there)) (by repeat constructor) ?_
            refine WD.on (closed_of (by kernel_rfl)) (fun w hS => Sx.gone rfl (Sx.gone rfl (Sx.none))) ?_
            refine WD.done (by kernel_rfl) ?_
            refine WQ.then_normal ?_
            refine WC.ret ?_
            refine WQ.ret (rs := [.cell 2 74]) rfl (.cellN F.agg74 rfl (by repeat (first | exact List.Mem.head _ | apply List.Mem.tail)) rfl .nil) (fun w hS => ?_)
            obtain ⟨F, h⟩ := St.node3 10 (St.pick (St.pick (St.pick (St.pick (St.pick hS (c := pt bp (pcell text a5 x5) 109) (by repeat (first | exact Rem.here | apply Rem.there))) (c := own y18.1 t3 (tv t3 y18.2.1 y18.2.2)) (by repeat (first | exact Rem.here | apply Rem.there))) (c := own y12.1 t2 (tv t2 y12.2.1 y12.2.2)) (by repeat (first | exact Rem.here | apply Rem.there))) (c := own y6.1 t1 (tv t1 y6.2.1 y6.2.2)) (by repeat (first | exact Rem.here | apply Rem.there))) (c := pt b19 [.int .u8 t1.op, .string (str t1.name), .slice y6.2.1 t1.kids.length y6.2.2, .int .u8 t2.op, .string (str t2.name), .slice y12.2.1 t2.kids.length y12.2.2, .int .u8 t3.op, .string (str t3.name), .slice y18.2.1 t3.kids.length y18.2.2] 74) (by repeat (first | exact Rem.here | apply Rem.there)))
            exact ⟨(F, _, _), rfl, h.two2⟩
        · skip
          clear hT
          have hT := fun w hp => must_c bp text x3 [58] a3 g3.2 hmax w hp
          rw [ht] at hT
          refine WC.region ?_
          refine WL.step ?_
          refine WL.move rfl rfl ?_
          refine WL.step ?_
          refine WL.call1P (bs := pcell text a3 x3) F.fun88 (fun d h => by cases h; rfl) rfl (by repeat (first | exact Rem.here | apply Rem.there)) (fun w hS => hT w (hS.heap (by repeat (first | exact List.Mem.head _ | apply List.Mem.tail)))) (fun cs => ?_)
          refine WQ.then_panic ?_
          refine WQ.panicked (fun w hS => ?_)
          exact ⟨rfl, _, (St.pick hS (c := pt bp cs 109) (by repeat (first | exact Rem.here | apply Rem.there))).one1⟩
    · skip
      have hT := fun w hp => takes_c bp text x1 [63] a1 g1.2 hmax w hp
      rw [ht] at hT
      refine WC.region ?_
      refine WL.step ?_
      refine WL.move rfl rfl ?_
      refine WL.step ?_
      refine WL.call1P (bs := pcell text a1 x1) F.fun87 (fun d h => by cases h; rfl) rfl (by repeat (first | exact Rem.here | apply Rem.there)) (fun w hS => hT w (hS.heap (by repeat (first | exact List.Mem.head _ | apply List.Mem.tail)))) (fun cs => ?_)
      refine WQ.then_panic ?_
      refine WQ.then_panic ?_
      refine WQ.panicked (fun w hS => ?_)
      exact ⟨rfl, _, (St.pick hS (c := pt bp cs 109) (by repeat (first | exact Rem.here | apply Rem.there))).one1⟩

theorem least_c (bp : Nat) (text : List UInt8) (hmax : text.length ≤ 140737488355328) (n : Nat) (hch : PC bp text 60 [pp bp] .choice n) :
    PC bp text 105 [pp bp] .least (n + 1) := by
  intro a x r w hle hr hp
  simp only [Fm.parse] at hr
  refine enter Try.func105 rfl Try.ntmps105 rfl (St.init1 hp) ?_
  refine WC.seq ?_
  refine WC.region ?_
  refine WL.step ?_
  refine WL.alloc F.zero74 rfl (fun b2 => ?_)
  refine WL.nil ?_
  refine WQ.then_normal ?_
  refine WC.seq ?_
  refine WC.region ?_
  refine WL.step ?_
  refine WL.move rfl rfl ?_
  refine WL.step ?_
  refine WL.nilCheck rfl rfl ?_
  refine WL.step ?_
  refine WL.fieldAddr0 F.fld109_2 rfl rfl ?_
  refine WL.step ?_
  refine WL.loadP F.one9 rfl rfl (by repeat (first | exact List.Mem.head _ | apply List.Mem.tail)) rfl ?_
  refine WL.step ?_
  refine WL.assign rfl rfl ?_
  refine WL.nil ?_
  refine WQ.then_normal ?_
  refine WC.seq ?_
  refine WC.block ?_
  refine WC.seq ?_
  rcases Fm.bindT_ok hr with ⟨ht, hr2⟩ | ⟨a2, x2, ht, hr2⟩ | ⟨a2, ht, rfl⟩
  · skip
    have hT := fun w hp => takes_c bp text x [40] a hle hmax w hp
    rw [ht] at hT
    refine WC.region ?_
    refine WL.step ?_
    refine WL.move rfl rfl ?_
    refine WL.step ?_
    refine WL.call1S (bs := pcell text a x) (bs' := pcell text a x) F.fun87 rfl rfl (by repeat (first | exact Rem.here | apply Rem.there)) (fun w hS => hT w (hS.heap (by repeat (first | exact List.Mem.head _ | apply List.Mem.tail)))) ?_
    refine WL.step ?_
    refine WL.assign rfl rfl ?_
    refine WL.nil ?_
    refine WQ.then_normal ?_
    refine WC.condF rfl ?_
    refine WC.seq ?_
    refine WC.region ?_
    refine WL.step ?_
    refine WL.move rfl rfl ?_
    refine WL.step ?_
    refine WL.eqS rfl rfl rfl ?_
    refine WL.step ?_
    refine WL.move rfl rfl ?_
    refine WA.splitB (i := 20) rfl (fun h20 => ?_) (fun h20 => ?_)
    · skip
      have hx : x = [] := by simpa using h20
      have hnl : Fm.noLeaf x = true := by rw [hx]; rfl
      refine WL.step (WL.guardF rfl rfl rfl rfl rfl rfl ?_)
      refine WL.step (WL.guardF rfl rfl rfl rfl rfl rfl ?_)
      refine WL.step (WL.guardF rfl rfl rfl rfl rfl rfl ?_)
      refine WL.step (WL.guardF rfl rfl rfl rfl rfl rfl ?_)
      refine WL.step ?_
      refine WL.pickT rfl rfl rfl ?_
      refine WL.step ?_
      refine WL.assign rfl rfl ?_
      refine WL.nil ?_
      refine WQ.then_normal ?_
      refine WC.condT rfl ?_
      refine WC.region ?_
      refine WL.step ?_
      refine WL.move rfl rfl ?_
      refine WL.step ?_
      refine WL.nilCheck rfl rfl ?_
      refine WL.step ?_
      refine WL.fieldAddr0 F.fld109_1 rfl rfl ?_
      refine WL.step ?_
      refine WL.loadP F.one3 rfl rfl (by repeat (first | exact List.Mem.head _ | apply List.Mem.tail)) rfl ?_
      refine WL.step ?_
      refine WL.build F.stT105 rfl (by repeat (first | exact Built.nil | apply Built.one rfl rfl (by repeat constructor) | apply Built.agg rfl rfl (by repeat constructor))) rfl ?_
      refine WL.step ?_
      refine WL.makeIface F.conc105 rfl rfl ?_
      refine WL.step ?_
      refine WL.panic rfl ?_
      refine WQ.block_panic ?_
      refine WQ.then_panic ?_
      rw [if_pos hnl] at hr2
      injection hr2 with hr2
      subst hr2
      refine WQ.panicked (fun w hS => ?_)
      exact ⟨rfl, _, (St.pick hS (c := pt bp (pcell text a x) 109) (by repeat (first | exact Rem.here | apply Rem.there))).one1⟩
    · skip
      have hx : x ≠ [] := by simpa using h20
      obtain ⟨c, hc⟩ : ∃ c, x[0]? = some c := by cases x with | nil => exact absurd rfl hx | cons c r => exact ⟨c, rfl⟩
      have hnl0 : Fm.noLeaf x = !Fm.inWordB c := by cases x with | nil => cases hc | cons d r => injection hc with hc; rw [← hc]; rfl
      refine WL.step (WL.guardT rfl rfl rfl ?_)
      refine WL.move rfl rfl ?_
      refine WL.step (WL.guardT rfl rfl rfl ?_)
      refine WL.indexS (i := 0) F.und9 rfl rfl rfl hc ?_
      refine WL.step (WL.guardT rfl rfl rfl ?_)
      refine WL.callV F.fun84 rfl rfl (fun w _ => inWord_c c w) ?_
      refine WL.step (WL.guardT rfl rfl rfl ?_)
      refine WL.not rfl rfl ?_
      refine WL.step ?_
      refine WL.pickF rfl rfl rfl ?_
      refine WL.step ?_
      refine WL.assign rfl rfl ?_
      refine WL.nil ?_
      refine WQ.then_normal ?_
      refine WC.cond rfl (fun h17 => ?_) (fun h17 => ?_)
      · skip
        have hnl : Fm.noLeaf x = true := by first | assumption | (rw [hnl0]; exact h17)
        refine WC.region ?_
        refine WL.step ?_
        refine WL.move rfl rfl ?_
        refine WL.step ?_
        refine WL.nilCheck rfl rfl ?_
        refine WL.step ?_
        refine WL.fieldAddr0 F.fld109_1 rfl rfl ?_
        refine WL.step ?_
        refine WL.loadP F.one3 rfl rfl (by repeat (first | exact List.Mem.head _ | apply List.Mem.tail)) rfl ?_
        refine WL.step ?_
        refine WL.build F.stT105 rfl (by repeat (first | exact Built.nil | apply Built.one rfl rfl (by repeat constructor) | apply Built.agg rfl rfl (by repeat constructor))) rfl ?_
        refine WL.step ?_
        refine WL.makeIface F.conc105 rfl rfl ?_
        refine WL.step ?_
        refine WL.panic rfl ?_
        refine WQ.block_panic ?_
        refine WQ.then_panic ?_
        rw [if_pos hnl] at hr2
        injection hr2 with hr2
        subst hr2
        refine WQ.panicked (fun w hS => ?_)
        exact ⟨rfl, _, (St.pick hS (c := pt bp (pcell text a x) 109) (by repeat (first | exact Rem.here | apply Rem.there))).one1⟩
      · skip
        have hnl : Fm.noLeaf x = false := by first | assumption | (rw [hnl0]; exact h17)
        simp only [hnl, Bool.false_eq_true, if_false] at hr2
        refine WC.skip ?_
        refine WQ.block_normal ?_
        refine WQ.then_normal ?_
        refine WC.seq ?_
        rcases hn : Fm.next text a x with ⟨a1, x1⟩ | a1
        · skip
          have hN := fun w hp => next_c bp text x a hle hmax w hp
          rw [hn] at hN hr2
          injection hr2 with hr2
          subst hr2
          refine WC.region ?_
          refine WL.step ?_
          refine WL.move rfl rfl ?_
          refine WL.step ?_
          refine WL.call1S (bs := pcell text a x) (bs' := pcell text a1 x1) F.fun59 rfl rfl (by repeat (first | exact Rem.here | apply Rem.there)) (fun w hS => hN w (hS.heap (by repeat (first | exact List.Mem.head _ | apply List.Mem.tail)))) ?_
          refine WL.nil ?_
          refine WQ.then_normal ?_
          refine WC.seq ?_
          refine WC.seq ?_
          refine WC.region ?_
          refine WL.step ?_
          refine WL.move rfl rfl ?_
          refine WL.nil ?_
          refine WQ.then_normal ?_
          refine WC.block ?_
          refine WC.seq ?_
          refine WC.region ?_
          refine WL.step ?_
          refine WL.eqS rfl rfl rfl ?_
          refine WL.step ?_
          refine WL.assign rfl rfl ?_
          refine WL.nil ?_
          refine WQ.then_normal ?_
          refine WC.cond rfl (fun h35 => ?_) (fun h35 => ?_)
          · skip
            have hx1 : x = [48] := by simpa using h35
            refine WC.seq ?_
            refine WC.region ?_
            refine WL.step ?_
            refine WL.callV F.fun89 rfl rfl (fun w _ => node_c _ _ _ _ w) ?_
            refine WL.step ?_
            refine WL.storeN F.agg74 rfl rfl rfl (by simp [Value.oneCell']) (by repeat (first | exact Upd.here | apply Upd.there)) (by repeat constructor) ?_
            refine WL.nil ?_
            refine WQ.then_normal ?_
            refine WC.ret ?_
            refine WQ.block_ret ?_
            refine WQ.then_ret ?_
            refine WQ.ret (rs := [.cell 2 74]) rfl (.cellN F.agg74 rfl (by repeat (first | exact List.Mem.head _ | apply List.Mem.tail)) rfl .nil) (fun w hS => ?_)
            have h0 := St.node0 1 [] (St.pick hS (c := pt bp (pcell text a1 x1) 109) (by repeat (first | exact Rem.here | apply Rem.there)))
            rw [show Fm.leaf x = .mk 1 [] [] by first | simp [Fm.leaf, hx1, hx2] | simp [Fm.leaf, hx1]]
            exact ⟨([], none, 0), rfl, h0.two2⟩
          · skip
            have hx1 : x ≠ [48] := by simpa using h35
            refine WC.seq ?_
            refine WC.region ?_
            refine WL.step ?_
            refine WL.eqS rfl rfl rfl ?_
            refine WL.step ?_
            refine WL.assign rfl rfl ?_
            refine WL.nil ?_
            refine WQ.then_normal ?_
            refine WC.cond rfl (fun h38 => ?_) (fun h38 => ?_)
            · skip
              have hx2 : x = [49] := by simpa using h38
              refine WC.seq ?_
              refine WC.region ?_
              refine WL.step ?_
              refine WL.callV F.fun89 rfl rfl (fun w _ => node_c _ _ _ _ w) ?_
              refine WL.step ?_
              refine WL.storeN F.agg74 rfl rfl rfl (by simp [Value.oneCell']) (by repeat (first | exact Upd.here | apply Upd.there)) (by repeat constructor) ?_
              refine WL.nil ?_
              refine WQ.then_normal ?_
              refine WC.ret ?_
              refine WQ.block_ret ?_
              refine WQ.then_ret ?_
              refine WQ.ret (rs := [.cell 2 74]) rfl (.cellN F.agg74 rfl (by repeat (first | exact List.Mem.head _ | apply List.Mem.tail)) rfl .nil) (fun w hS => ?_)
              have h0 := St.node0 2 [] (St.pick hS (c := pt bp (pcell text a1 x1) 109) (by repeat (first | exact Rem.here | apply Rem.there)))
              rw [show Fm.leaf x = .mk 2 [] [] by first | simp [Fm.leaf, hx1, hx2] | simp [Fm.leaf, hx1]]
              exact ⟨([], none, 0), rfl, h0.two2⟩
            · skip
              have hx2 : x ≠ [49] := by simpa using h38
              refine WC.skip ?_
              refine WQ.block_normal ?_
              refine WQ.then_normal ?_
              refine WC.seq ?_
              refine WC.region ?_
              refine WL.step ?_
              refine WL.move rfl rfl ?_
              refine WL.step ?_
              refine WL.build F.stT74 rfl (by repeat (first | exact Built.nil | apply Built.one rfl rfl (by repeat constructor) | apply Built.agg rfl rfl (by repeat constructor))) rfl ?_
              refine WL.step ?_
              refine WL.storeN F.agg74 rfl rfl rfl (by simp [Value.oneCell']) (by repeat (first | exact Upd.here | apply Upd.there)) (by repeat constructor) ?_
              refine WL.nil ?_
              refine WQ.then_normal ?_
              refine WC.ret ?_
              refine WQ.ret (rs := [.cell 2 74]) rfl (.cellN F.agg74 rfl (by repeat (first | exact List.Mem.head _ | apply List.Mem.tail)) rfl .nil) (fun w hS => ?_)
              have h0 := St.node0 3 x (St.pick hS (c := pt bp (pcell text a1 x1) 109) (by repeat (first | exact Rem.here | apply Rem.there)))
              rw [show Fm.leaf x = .mk 3 x [] by first | simp [Fm.leaf, hx1, hx2] | simp [Fm.leaf, hx1]]
              exact ⟨([], none, 0), rfl, h0.two2⟩
        · skip
          have hN := fun w hp => next_c bp text x a hle hmax w hp
          rw [hn] at hN hr2
          injection hr2 with hr2
          subst hr2
          refine WC.region ?_
          refine WL.step ?_
          refine WL.move rfl rfl ?_
          refine WL.step ?_
          refine WL.call1P (bs := pcell text a x) F.fun59 (fun d h => by cases h; rfl) rfl (by repeat (first | exact Rem.here | apply Rem.there)) (fun w hS => hN w (hS.heap (by repeat (first | exact List.Mem.head _ | apply List.Mem.tail)))) (fun cs => ?_)
          refine WQ.then_panic ?_
          refine WQ.panicked (fun w hS => ?_)
          exact ⟨rfl, _, (St.pick hS (c := pt bp cs 109) (by repeat (first | exact Rem.here | apply Rem.there))).one1⟩
  · skip
    have hT := fun w hp => takes_c bp text x [40] a hle hmax w hp
    rw [ht] at hT
    have g2 := Fm.takes_le hle ht
    refine WC.region ?_
    refine WL.step ?_
    refine WL.move rfl rfl ?_
    refine WL.step ?_
    refine WL.call1S (bs := pcell text a x) (bs' := pcell text a2 x2) F.fun87 rfl rfl (by repeat (first | exact Rem.here | apply Rem.there)) (fun w hS => hT w (hS.heap (by repeat (first | exact List.Mem.head _ | apply List.Mem.tail)))) ?_
    refine WL.step ?_
    refine WL.assign rfl rfl ?_
    refine WL.nil ?_
    refine WQ.then_normal ?_
    refine WC.condT rfl ?_
    refine WC.seq ?_
    rcases Fm.bindP_ok hr2 with ⟨a3, h3, rfl⟩ | ⟨t2, a3, x3, h3, hr3⟩
    · skip
      have hM := fun w hp => hch _ _ _ w g2.2 h3 hp
      refine WC.region ?_
      refine WL.step ?_
      refine WL.move rfl rfl ?_
      refine WL.step ?_
      refine WL.call1P (bs := pcell text a2 x2) F.fun60 (fun d h => by cases h; rfl) rfl (by repeat (first | exact Rem.here | apply Rem.there)) (fun w hS => hM w (hS.heap (by repeat (first | exact List.Mem.head _ | apply List.Mem.tail)))) (fun cs => ?_)
      refine WQ.then_panic ?_
      refine WQ.block_panic ?_
      refine WQ.then_panic ?_
      refine WQ.panicked (fun w hS => ?_)
      exact ⟨rfl, _, (St.pick hS (c := pt bp cs 109) (by repeat (first | exact Rem.here | apply Rem.there))).one1⟩
    · skip
      have hM := fun w hp => hch _ _ _ w g2.2 h3 hp
      have g3 := Fm.parse_le _ _ _ _ _ _ _ g2.2 h3
      refine WC.region ?_
      refine WL.step ?_
      refine WL.move rfl rfl ?_
      refine WL.step ?_
      refine WL.call1A (res := fun y : List Nat × Option Addr × Nat => tv t2 y.2.1 y.2.2) (c1 := fun y : List Nat × Option Addr × Nat => own y.1 t2 (tv t2 y.2.1 y.2.2)) (c2 := fun _ => pt bp (pcell text a3 x3) 109) (bs := pcell text a2 x2) F.fun60 rfl rfl (by repeat (first | exact Rem.here | apply Rem.there)) (fun w hS => hM w (hS.heap (by repeat (first | exact List.Mem.head _ | apply List.Mem.tail)))) (fun y13 => ?_)
      refine WL.step ?_
      refine WL.alloc F.zero74 rfl (fun b4 => ?_)
      refine WL.step ?_
      refine WL.storeN F.agg74 rfl rfl rfl (by simp [Value.oneCell']) (by repeat (first | exact Upd.here | apply Upd.there)) (by repeat constructor) ?_
      refine WL.nil ?_
      refine WQ.then_normal ?_
      refine WC.seq ?_
      rcases Fm.bindT_ok hr3 with ⟨ht, hr4⟩ | ⟨a4, x4, ht, hr4⟩ | ⟨a4, ht, rfl⟩
      · skip
        clear hT
        have hT := fun w hp => must_c bp text x3 [41] a3 g3.2 hmax w hp
        rw [ht] at hT
        injection hr4 with hr4
        subst hr4
        refine WC.region ?_
        refine WL.step ?_
        refine WL.move rfl rfl ?_
        refine WL.step ?_
        refine WL.call1P (bs := pcell text a3 x3) F.fun88 (fun d h => by cases h; rfl) rfl (by repeat (first | exact Rem.here | apply Rem.there)) (fun w hS => hT w (hS.heap (by repeat (first | exact List.Mem.head _ | apply List.Mem.tail)))) (fun cs => ?_)
        refine WQ.then_panic ?_
        refine WQ.block_panic ?_
        refine WQ.then_panic ?_
        refine WQ.panicked (fun w hS => ?_)
        exact ⟨rfl, _, (St.pick hS (c := pt bp cs 109) (by repeat (first | exact Rem.here | apply Rem.there))).one1⟩
      · skip
        clear hT
        have hT := fun w hp => must_c bp text x3 [41] a3 g3.2 hmax w hp
        rw [ht] at hT
        injection hr4 with hr4
        subst hr4
        refine WC.region ?_
        refine WL.step ?_
        refine WL.move rfl rfl ?_
        refine WL.step ?_
        refine WL.call1S (bs := pcell text a3 x3) (bs' := pcell text a4 x4) F.fun88 rfl rfl (by repeat (first | exact Rem.here | apply Rem.there)) (fun w hS => hT w (hS.heap (by repeat (first | exact List.Mem.head _ | apply List.Mem.tail)))) ?_
        refine WL.nil ?_
        refine WQ.then_normal ?_
        refine WC.seq ?_
        refine WC.region ?_
        refine WL.step ?_
        refine WL.loadW F.agg74 rfl rfl (by repeat (first | exact List.Mem.head _ | apply List.Mem.tail)) rfl ?_
        refine WL.step ?_
        refine WL.storeN F.agg74 rfl rfl rfl (by simp [Value.oneCell']) (by repeat (first | exact Upd.here | apply Upd.there)) (by repeat constructor) ?_
        refine WL.nil ?_
        refine WQ.then_normal ?_
        refine WC.ret ?_
        refine WQ.block_ret ?_
        refine WQ.then_ret ?_
        refine WQ.ret (rs := [.cell 2 74]) rfl (.cellN F.agg74 rfl (by repeat (first | exact List.Mem.head _ | apply List.Mem.tail)) rfl .nil) (fun w hS => ?_)
        exact ⟨y13, rfl, (St.pick (St.pick hS (c := pt bp (pcell text a4 x4) 109) (by repeat (first | exact Rem.here | apply Rem.there))) (c := own y13.1 t2 (tv t2 y13.2.1 y13.2.2)) (by repeat (first | exact Rem.here | apply Rem.there))).two2⟩
      · skip
        clear hT
        have hT := fun w hp => must_c bp text x3 [41] a3 g3.2 hmax w hp
        rw [ht] at hT
        refine WC.region ?_
        refine WL.step ?_
        refine WL.move rfl rfl ?_
        refine WL.step ?_
        refine WL.call1P (bs := pcell text a3 x3) F.fun88 (fun d h => by cases h; rfl) rfl (by repeat (first | exact Rem.here | apply Rem.there)) (fun w hS => hT w (hS.heap (by repeat (first | exact List.Mem.head _ | apply List.Mem.tail)))) (fun cs => ?_)
        refine WQ.then_panic ?_
        refine WQ.block_panic ?_
        refine WQ.then_panic ?_
        refine WQ.panicked (fun w hS => ?_)
        exact ⟨rfl, _, (St.pick hS (c := pt bp cs 109) (by repeat (first | exact Rem.here | apply Rem.there))).one1⟩
  · skip
    have hT := fun w hp => takes_c bp text x [40] a hle hmax w hp
    rw [ht] at hT
    refine WC.region ?_
    refine WL.step ?_
    refine WL.move rfl rfl ?_
    refine WL.step ?_
    refine WL.call1P (bs := pcell text a x) F.fun87 (fun d h => by cases h; rfl) rfl (by repeat (first | exact Rem.here | apply Rem.there)) (fun w hS => hT w (hS.heap (by repeat (first | exact List.Mem.head _ | apply List.Mem.tail)))) (fun cs => ?_)
    refine WQ.then_panic ?_
    refine WQ.block_panic ?_
    refine WQ.then_panic ?_
    refine WQ.panicked (fun w hS => ?_)
    exact ⟨rfl, _, (St.pick hS (c := pt bp cs 109) (by repeat (first | exact Rem.here | apply Rem.there))).one1⟩

end Go.Proofs.Ytkgllhkhdjodeaa

namespace Go.Proofs.Ytkgllhkhdjodeaa
open Go Go.Eng Go.Proofs
def nots : Nat → Tree → Tree
  | 0, t => t
  | k + 1, t => .mk 4 [] [nots k t]
theorem nots_in : ∀ (k : Nat) (t : Tree), nots k (.mk 4 [] [t]) = nots (k + 1) t
  | 0, _ => rfl
  | k + 1, t => by rw [nots, nots_in k t]; rfl
def wrapR (k : Nat) : Fm.PR → Fm.PR
  | .ok t a x => .ok (nots k t) a x
  | .bad a => .bad a
theorem wrapR_step {text : List UInt8} {m a k : Nat} {x : List UInt8} {rk r : Fm.PR} (h : Fm.bindP (Fm.parse text m .not a x) (fun t a x => some (.ok (.mk 4 [] [t]) a x)) = some rk) (hr : r = wrapR k rk) :
    ∃ rk', Fm.parse text m .not a x = some rk' ∧ r = wrapR (k + 1) rk' := by
  rcases Fm.bindP_ok h with ⟨b, h1, rfl⟩ | ⟨t, b, y, h1, h2⟩
  · exact ⟨_, h1, hr⟩
  · injection h2 with h2
    subst h2
    exact ⟨_, h1, by rw [hr]; simp [wrapR, nots_in]⟩
theorem takes_word {text wd s x : List UInt8} {at_ a : Nat} (h : Fm.takes text at_ wd s = .yes a x) : wd = s := by
  unfold Fm.takes at h
  split at h
  · assumption
  · cases h

theorem not_c (bp : Nat) (text : List UInt8) (hmax : text.length ≤ 140737488355328) (n : Nat) (hleast : ∀ m, m ≤ n → PC bp text 105 [pp bp] .least m) :
    PC bp text 104 [pp bp] .not (n + 1) := by
  intro a x r w hle hr hp
  refine enter Try.func104 rfl Try.ntmps104 rfl (St.init1 hp) ?_
  refine WC.seq ?_
  refine WC.region ?_
  refine WL.step ?_
  refine WL.alloc F.zero74 rfl (fun b2 => ?_)
  refine WL.nil ?_
  refine WQ.then_normal ?_
  refine WC.seq ?_
  refine WC.region ?_
  refine WL.step ?_
  refine WL.assign rfl rfl ?_
  refine WL.nil ?_
  refine WQ.then_normal ?_
  refine WC.seq ?_
  refine WC.block ?_
  refine WC.chunks (fun w hS => (St.pick hS (c := pt bp (pcell text a x) 109) (by repeat (first | exact Rem.here | apply Rem.there)))) ?_
  refine WC.loop (α := Nat × Nat × Nat × List UInt8) (fun g => g.1 ≤ g.2.2.1 ∧ g.2.1 ≤ n + 1 ∧ g.2.2.1 + g.2.2.2.length ≤ text.length ∧ ∃ rk, Fm.parse text g.2.1 .not g.2.2.1 g.2.2.2 = some rk ∧ r = wrapR g.1 rk) (fun g => [(0, pp bp), (2, pp b2), (3, .int .i64 (g.1 : Int))]) (fun g => [pt bp (pcell text g.2.2.1 g.2.2.2) 109, pt b2 [Value.int .u8 0, .string (str []), .slice none 0 0] 74]) (fun g => g.2.1) ((0, n + 1, a, x)) ?_ ?_ ?_ ?_
  · exact ⟨Nat.zero_le _, Nat.le_refl _, hle, r, hr, by cases r <;> rfl⟩
  · exact ⟨rfl, rfl, rfl, trivial⟩
  · rfl
  rintro ⟨k, m, ak, xk⟩ ⟨hk, hm, hle2, rk, hrk, hrw⟩
  dsimp only at hk hm hle2 hrk hrw
  show WC _ _ _ _ _ _ _ [(0, pp bp), (2, pp b2), (3, .int .i64 (k : Int))] [pt bp (pcell text ak xk) 109, pt b2 [Value.int .u8 0, .string (str []), .slice none 0 0] 74]
  obtain ⟨m, rfl⟩ : ∃ m2, m = m2 + 1 := by cases m with | zero => simp [Fm.parse] at hrk | succ m => exact ⟨m, rfl⟩
  simp only [Fm.parse] at hrk
  refine WC.seq ?_
  refine WC.seq ?_
  rcases Fm.bindT_ok hrk with ⟨ht, hrk2⟩ | ⟨a2, x2, ht, hrk2⟩ | ⟨a2, ht, rfl⟩
  · skip
    have hT := fun w hp => takes_c bp text xk [33] ak hle2 hmax w hp
    rw [ht] at hT
    refine WC.region ?_
    refine WL.step ?_
    refine WL.move rfl rfl ?_
    refine WL.step ?_
    refine WL.call1S (bs := pcell text ak xk) (bs' := pcell text ak xk) F.fun87 rfl rfl (by repeat (first | exact Rem.here | apply Rem.there)) (fun w hS => hT w (hS.heap (by repeat (first | exact List.Mem.head _ | apply List.Mem.tail)))) ?_
    refine WL.nil ?_
    refine WQ.then_normal ?_
    refine WC.condF rfl ?_
    refine WC.exit ?_
    refine WQ.then_exit ?_
    refine WQ.then_exit ?_
    refine WQ.block_exit ?_
    refine WQ.then_normal ?_
    refine WC.seq ?_
    rcases rk with ⟨t, a1, x1⟩ | a1
    · skip
      have hN := fun w hp => hleast m (by omega) _ _ _ w hle2 hrk2 hp
      refine WC.region ?_
      refine WL.step ?_
      refine WL.move rfl rfl ?_
      refine WL.step ?_
      refine WL.call1A (res := fun y : List Nat × Option Addr × Nat => tv t y.2.1 y.2.2) (c1 := fun y : List Nat × Option Addr × Nat => own y.1 t (tv t y.2.1 y.2.2)) (c2 := fun _ => pt bp (pcell text a1 x1) 109) (bs := pcell text ak xk) F.fun105 rfl rfl (by repeat (first | exact Rem.here | apply Rem.there)) (fun w hS => hN w (hS.heap (by repeat (first | exact List.Mem.head _ | apply List.Mem.tail)))) (fun y10 => ?_)
      refine WL.step ?_
      refine WL.alloc F.zero74 rfl (fun b4 => ?_)
      refine WL.step ?_
      refine WL.storeN F.agg74 rfl rfl rfl (by simp [Value.oneCell']) (by repeat (first | exact Upd.here | apply Upd.there)) (by repeat constructor) ?_
      refine WL.nil ?_
      refine WQ.then_normal ?_
      refine WC.seq ?_
      refine WC.seq ?_
      refine WC.region ?_
      refine WL.step ?_
      refine WL.move rfl rfl ?_
      refine WL.step ?_
      refine WL.move rfl rfl ?_
      refine WL.nil ?_
      refine WQ.then_normal ?_
      refine WC.block ?_
      refine WC.loop (α := Nat × (List Nat × Option Addr × Nat)) (fun g => g.1 ≤ k) (fun g => [(2, pp b2), (4, pp b4), (11, .int .i64 (k : Int)), (12, .int .i64 (g.1 : Int))]) (fun g => [pt b4 [.int .u8 (nots g.1 t).op, .string (str (nots g.1 t).name), .slice g.2.2.1 (nots g.1 t).kids.length g.2.2.2] 74, own g.2.1 (nots g.1 t) (tv (nots g.1 t) g.2.2.1 g.2.2.2), pt bp (pcell text a1 x1) 109, pt b2 [Value.int .u8 0, .string (str []), .slice none 0 0] 74]) (fun g => k - g.1) ((0, y10)) ?_ ?_ ?_ ?_
      · exact Nat.zero_le _
      · exact ⟨rfl, rfl, rfl, rfl, trivial⟩
      · rfl
      rintro ⟨i, y⟩ hi
      dsimp only at hi
      show WC _ _ _ _ _ _ _ [(2, pp b2), (4, pp b4), (11, .int .i64 (k : Int)), (12, .int .i64 (i : Int))] [pt b4 [.int .u8 (nots i t).op, .string (str (nots i t).name), .slice y.2.1 (nots i t).kids.length y.2.2] 74, own y.1 (nots i t) (tv (nots i t) y.2.1 y.2.2), pt bp (pcell text a1 x1) 109, pt b2 [Value.int .u8 0, .string (str []), .slice none 0 0] 74]
      refine WC.seq ?_
      refine WC.region ?_
      refine WL.step ?_
      refine WL.ltI rfl rfl rfl ?_
      refine WL.nil ?_
      refine WQ.then_normal ?_
      refine WC.seq ?_
      refine WC.cond rfl (fun h13 => ?_) (fun h13 => ?_)
      · skip
        have hik : i < k := by simpa using h13
        refine WC.skip ?_
        refine WQ.then_normal ?_
        refine WC.seq ?_
        refine WC.block ?_
        refine WC.region ?_
        refine WL.step ?_
        refine WL.loadW F.agg74 rfl rfl (by repeat (first | exact List.Mem.head _ | apply List.Mem.tail)) rfl ?_
        refine WL.step ?_
        refine WL.buildSlice F.sl72 F.ez72 rfl rfl rfl rfl (by repeat (first | exact Built.nil | apply Built.one rfl rfl (by repeat constructor) | apply Built.agg rfl rfl (by repeat constructor))) rfl (fun b15 => ?_)
        refine WL.step ?_
        refine WL.callV F.fun89 rfl rfl (fun w _ => node_c _ _ _ _ w) ?_
        refine WL.step ?_
        refine WL.storeN F.agg74 rfl rfl rfl (by simp [Value.oneCell']) (by repeat (first | exact Upd.here | apply Upd.there)) (by repeat constructor) ?_
        refine WA.chunksE (C' := fun F => [pt b4 [.int .u8 4, .string (str []), .slice (some ⟨b15, 0, none⟩) 1 1] 74, own F (nots (i + 1) t) (.agg [Value.int .u8 4, .string (str []), .slice (some ⟨b15, 0, none⟩) 1 1].toArray), pt bp (pcell text a1 x1) 109, pt b2 [Value.int .u8 0, .string (str []), .slice none 0 0] 74]) (fun w hS => ?_) (fun F => ?_)
        · obtain ⟨F, h⟩ := St.node1 4 (St.pick (St.pick hS (c := own y.1 (nots i t) (tv (nots i t) y.2.1 y.2.2)) (by repeat (first | exact Rem.here | apply Rem.there))) (c := pt b15 [.int .u8 (nots i t).op, .string (str (nots i t).name), .slice y.2.1 (nots i t).kids.length y.2.2] 74) (by repeat (first | exact Rem.here | apply Rem.there)))
          exact ⟨F, (St.pick h (c := pt b4 [.int .u8 4, .string (str []), .slice (some ⟨b15, 0, none⟩) 1 1] 74) (by repeat (first | exact Rem.here | apply Rem.there)))⟩
        refine WL.nil ?_
        refine WQ.block_normal ?_
        refine WQ.then_normal ?_
        refine WC.region ?_
        refine WL.step ?_
        refine WL.add rfl rfl rfl ⟨by omega, by omega⟩ ?_
        refine WL.step ?_
        refine WL.move rfl rfl ?_
        refine WL.nil ?_
        refine WQ.back ((i + 1, (F, some ⟨b15, 0, none⟩, 1))) ?_ ?_ ?_ ?_
        · exact (by show i + 1 ≤ k; omega)
        · (show k - (i + 1) < k - i; omega)
        · exact ⟨rfl, rfl, rfl, rfl, trivial⟩
        · rfl
      · skip
        have hik : i = k := by simp at h13; omega
        subst hik
        refine WC.exit ?_
        refine WQ.then_exit ?_
        refine WQ.then_exit ?_
        refine WQ.block_exit ?_
        refine WQ.then_normal ?_
        refine WC.seq ?_
        refine WC.region ?_
        refine WL.step ?_
        refine WL.loadW F.agg74 rfl rfl (by repeat (first | exact List.Mem.head _ | apply List.Mem.tail)) rfl ?_
        refine WL.step ?_
        refine WL.storeN F.agg74 rfl rfl rfl (by simp [Value.oneCell']) (by repeat (first | exact Upd.here | apply Upd.there)) (by repeat constructor) ?_
        refine WL.nil ?_
        refine WQ.then_normal ?_
        refine WC.ret ?_
        subst hrw
        refine WQ.ret (rs := [.cell 2 74]) rfl (.cellN F.agg74 rfl (by repeat (first | exact List.Mem.head _ | apply List.Mem.tail)) rfl .nil) (fun w hS => ?_)
        exact ⟨y, rfl, (St.pick (St.pick hS (c := pt bp (pcell text a1 x1) 109) (by repeat (first | exact Rem.here | apply Rem.there))) (c := own y.1 (nots i t) (tv (nots i t) y.2.1 y.2.2)) (by repeat (first | exact Rem.here | apply Rem.there))).two2⟩
    · skip
      have hN := fun w hp => hleast m (by omega) _ _ _ w hle2 hrk2 hp
      refine WC.region ?_
      refine WL.step ?_
      refine WL.move rfl rfl ?_
      refine WL.step ?_
      refine WL.call1P (bs := pcell text ak xk) F.fun105 (fun d h => by cases h; rfl) rfl (by repeat (first | exact Rem.here | apply Rem.there)) (fun w hS => hN w (hS.heap (by repeat (first | exact List.Mem.head _ | apply List.Mem.tail)))) (fun cs => ?_)
      refine WQ.then_panic ?_
      subst hrw
      refine WQ.panicked (fun w hS => ?_)
      exact ⟨rfl, _, (St.pick hS (c := pt bp cs 109) (by repeat (first | exact Rem.here | apply Rem.there))).one1⟩
  · skip
    have hT := fun w hp => takes_c bp text xk [33] ak hle2 hmax w hp
    rw [ht] at hT
    have g2 := Fm.takes_le hle2 ht
    refine WC.region ?_
    refine WL.step ?_
    refine WL.move rfl rfl ?_
    refine WL.step ?_
    refine WL.call1S (bs := pcell text ak xk) (bs' := pcell text a2 x2) F.fun87 rfl rfl (by repeat (first | exact Rem.here | apply Rem.there)) (fun w hS => hT w (hS.heap (by repeat (first | exact List.Mem.head _ | apply List.Mem.tail)))) ?_
    refine WL.nil ?_
    refine WQ.then_normal ?_
    refine WC.condT rfl ?_
    refine WC.skip ?_
    refine WQ.then_normal ?_
    refine WC.block ?_
    refine WC.region ?_
    refine WL.step ?_
    refine WL.move rfl rfl ?_
    refine WL.step ?_
    refine WL.add rfl rfl rfl ⟨by omega, by omega⟩ ?_
    refine WL.step ?_
    refine WL.assign rfl rfl ?_
    refine WL.nil ?_
    refine WQ.block_normal ?_
    refine WQ.back ((k + 1, m, a2, x2)) ?_ ?_ ?_ ?_
    · exact ⟨by have := takes_word ht; rw [this] at g2; simp at g2; show k + 1 ≤ a2; omega, by show m ≤ n + 1; omega, g2.2, wrapR_step hrk2 hrw⟩
    · exact Nat.lt_succ_self m
    · exact ⟨rfl, rfl, rfl, trivial⟩
    · rfl
  · skip
    have hT := fun w hp => takes_c bp text xk [33] ak hle2 hmax w hp
    rw [ht] at hT
    refine WC.region ?_
    refine WL.step ?_
    refine WL.move rfl rfl ?_
    refine WL.step ?_
    refine WL.call1P (bs := pcell text ak xk) F.fun87 (fun d h => by cases h; rfl) rfl (by repeat (first | exact Rem.here | apply Rem.there)) (fun w hS => hT w (hS.heap (by repeat (first | exact List.Mem.head _ | apply List.Mem.tail)))) (fun cs => ?_)
    refine WQ.then_panic ?_
    refine WQ.then_panic ?_
    refine WQ.then_panic ?_
    refine WQ.block_panic ?_
    refine WQ.then_panic ?_
    subst hrw
    refine WQ.panicked (fun w hS => ?_)
    exact ⟨rfl, _, (St.pick hS (c := pt bp cs 109) (by repeat (first | exact Rem.here | apply Rem.there))).one1⟩

theorem _root_.Go.Eng.St.lone {w0 w : World} {O : List Nat} {C : List Chunk} {ad : Option Addr} {n cap : Nat} {e : TypeId} {F : List Nat} {t : Tree} {vs : List Value} (hn : n = 1) (h : St w0 O (rowc (.slice ad n cap) n e 3 (flat vs) :: ownL F [t] vs :: C) w) :
    ∃ g a c, ad = some ⟨g, 0, none⟩ ∧ vs = [tv t a c] := by
  have hr : w.ownsRow 0 e 3 (.slice ad n cap) n (flat vs) := h.ok _ (List.mem_cons_self ..)
  have hl : F.Nodup ∧ rdL w [t] F vs := h.ok _ (List.mem_cons_of_mem _ (List.mem_cons_self ..))
  have hl2 := hl.2
  simp only [rdL] at hl2
  obtain ⟨F1, F2, v, vs', hF, hvs, h1, h2, h3⟩ := hl2
  obtain ⟨a, m, c, hv, hm⟩ := rdT_val h1
  subst hm; subst hv; subst h3
  rcases hr.2 with ⟨_, h0⟩ | ⟨g, cp, cur, hg, _⟩
  · omega
  · injection hg with ha _ _
    exact ⟨g, a, c, ha, hvs⟩
theorem _root_.Go.Eng.St.ownOne {w0 w : World} {O : List Nat} {C : List Chunk} {F : List Nat} {t : Tree} {v : Value} (h : St w0 O (ownL F [t] [v] :: C) w) : St w0 O (own F t v :: C) w :=
  h.swap (fun ⟨h1, h2⟩ => ⟨h1, by
    simp only [rdL] at h2
    obtain ⟨F1, F2, v', vs', hF, hvs, h3, h4, h5⟩ := h2
    injection hvs with e1 e2
    subst e1; subst h4
    rw [hF, List.append_nil]; exact h3⟩) (fun k hk => hk)
structure RG where
  m : Nat
  acc : List Tree
  F : List Nat
  vs : List Value
  len : Nat
  cells : List Value
  ad : Option Addr
  cap : Nat
  ak : Nat
  xk : List UInt8
theorem mkRow_ne {i : Nat} {acc : List Tree} (h : acc.length ≠ 1) : Fm.mkRow i acc = .mk (Fm.rowOp i) [] acc := by
  rcases acc with _ | ⟨a, _ | ⟨b, r⟩⟩
  · rfl
  · simp at h
  · rfl

theorem next_le3 {ak xl tl : Nat} (h : ak + xl ≤ tl) : ak ≤ tl := by omega
theorem row_c (bp : Nat) (text : List UInt8) (hmax2 : text.length ≤ 1099511627776) (n i : Nat) (hi : i ≤ 3) (hnot : PC bp text 104 [pp bp] .not n) (hrow : i < 3 → ∀ m, m ≤ n → PC bp text 101 [pp bp, .int .i64 ((i : Int) + 1)] (.row (i + 1)) m) :
    PC bp text 101 [pp bp, .int .i64 (i : Int)] (.row i) (n + 1) := by
  intro a x r w hle hr hp
  have hmax : text.length ≤ 140737488355328 := by omega
  refine enter Try.func101 rfl Try.ntmps101 rfl (St.init1 hp) ?_
  refine WC.seq ?_
  refine WC.region ?_
  refine WL.step ?_
  refine WL.alloc F.zero74 rfl (fun b4 => ?_)
  refine WL.nil ?_
  refine WQ.then_normal ?_
  refine WC.seq ?_
  refine WC.region ?_
  refine WL.step ?_
  refine WL.build F.stT156 rfl (by repeat (first | exact Built.nil | apply Built.one rfl rfl (by repeat constructor) | apply Built.agg rfl rfl (by repeat constructor))) rfl ?_
  refine WL.step ?_
  refine WL.build F.stT156 rfl (by repeat (first | exact Built.nil | apply Built.one rfl rfl (by repeat constructor) | apply Built.agg rfl rfl (by repeat constructor))) rfl ?_
  refine WL.step ?_
  refine WL.build F.stT156 rfl (by repeat (first | exact Built.nil | apply Built.one rfl rfl (by repeat constructor) | apply Built.agg rfl rfl (by repeat constructor))) rfl ?_
  refine WL.step ?_
  refine WL.buildA F.arT157 rfl (by repeat (first | exact Built.nil | apply Built.one rfl rfl (by repeat constructor) | apply Built.agg rfl rfl (by repeat constructor))) rfl ?_
  refine WL.step ?_
  refine WL.alloc F.zero157 rfl (fun b5 => ?_)
  refine WL.step ?_
  refine WL.storeN F.agg157 rfl rfl rfl (by simp [Value.oneCell']) (by repeat (first | exact Upd.here | apply Upd.there)) (by repeat constructor) ?_
  refine WL.nil ?_
  refine WQ.then_normal ?_
  refine WC.seq ?_
  refine WC.seq ?_
  refine WC.region ?_
  refine WL.step ?_
  refine WL.move rfl rfl ?_
  refine WL.step ?_
  refine WL.eqI rfl rfl rfl ?_
  refine WL.nil ?_
  refine WQ.then_normal ?_
  refine WC.cond rfl (fun h12 => ?_) (fun h12 => ?_)
  · skip
    have hi3 : i = 3 := by simp at h12; omega
    subst hi3
    simp only [Fm.parse, Nat.le_refl, if_true] at hr
    refine WC.seq ?_
    rcases r with ⟨t1, a1, x1⟩ | a1
    · skip
      have hN := fun w hp => hnot _ _ _ w hle hr hp
      refine WC.region ?_
      refine WL.step ?_
      refine WL.move rfl rfl ?_
      refine WL.step ?_
      refine WL.call1A (res := fun y : List Nat × Option Addr × Nat => tv t1 y.2.1 y.2.2) (c1 := fun y : List Nat × Option Addr × Nat => own y.1 t1 (tv t1 y.2.1 y.2.2)) (c2 := fun _ => pt bp (pcell text a1 x1) 109) (bs := pcell text a x) F.fun104 rfl rfl (by repeat (first | exact Rem.here | apply Rem.there)) (fun w hS => hN w (hS.heap (by repeat (first | exact List.Mem.head _ | apply List.Mem.tail)))) (fun y14 => ?_)
      refine WL.step ?_
      refine WL.storeN F.agg74 rfl rfl rfl (by simp [Value.oneCell']) (by repeat (first | exact Upd.here | apply Upd.there)) (by repeat constructor) ?_
      refine WL.nil ?_
      refine WQ.then_normal ?_
      refine WC.ret ?_
      refine WQ.then_ret ?_
      refine WQ.ret (rs := [.cell 4 74]) rfl (.cellN F.agg74 rfl (by repeat (first | exact List.Mem.head _ | apply List.Mem.tail)) rfl .nil) (fun w hS => ?_)
      exact ⟨y14, rfl, (St.pick (St.pick hS (c := pt bp (pcell text a1 x1) 109) (by repeat (first | exact Rem.here | apply Rem.there))) (c := own y14.1 t1 (tv t1 y14.2.1 y14.2.2)) (by repeat (first | exact Rem.here | apply Rem.there))).two2⟩
    · skip
      have hN := fun w hp => hnot _ _ _ w hle hr hp
      refine WC.region ?_
      refine WL.step ?_
      refine WL.move rfl rfl ?_
      refine WL.step ?_
      refine WL.call1P (bs := pcell text a x) F.fun104 (fun d h => by cases h; rfl) rfl (by repeat (first | exact Rem.here | apply Rem.there)) (fun w hS => hN w (hS.heap (by repeat (first | exact List.Mem.head _ | apply List.Mem.tail)))) (fun cs => ?_)
      refine WQ.then_panic ?_
      refine WQ.then_panic ?_
      refine WQ.panicked (fun w hS => ?_)
      exact ⟨rfl, _, (St.pick hS (c := pt bp cs 109) (by repeat (first | exact Rem.here | apply Rem.there))).one1⟩
  · skip
    have hi3 : i < 3 := by simp at h12; omega
    simp only [Fm.parse, show ¬ 3 ≤ i by omega, if_false] at hr
    refine WC.skip ?_
    refine WQ.then_normal ?_
    refine WC.seq ?_
    rcases Fm.bindP_ok hr with ⟨a1, h1, rfl⟩ | ⟨t1, a1, x1, h1, hr1⟩
    · skip
      have hN := fun w hp => hrow hi3 n (Nat.le_refl _) _ _ _ w hle h1 hp
      refine WC.region ?_
      refine WL.step ?_
      refine WL.move rfl rfl ?_
      refine WL.step ?_
      refine WL.move rfl rfl ?_
      refine WL.step ?_
      refine WL.add rfl rfl rfl ⟨by omega, by omega⟩ ?_
      refine WL.step ?_
      refine WL.call1P (bs := pcell text a x) F.fun101 (fun d h => by cases h; rfl) rfl (by repeat (first | exact Rem.here | apply Rem.there)) (fun w hS => hN w (hS.heap (by repeat (first | exact List.Mem.head _ | apply List.Mem.tail)))) (fun cs => ?_)
      refine WQ.then_panic ?_
      refine WQ.panicked (fun w hS => ?_)
      exact ⟨rfl, _, (St.pick hS (c := pt bp cs 109) (by repeat (first | exact Rem.here | apply Rem.there))).one1⟩
    · skip
      have hN := fun w hp => hrow hi3 n (Nat.le_refl _) _ _ _ w hle h1 hp
      have g1 := Fm.parse_le _ _ _ _ _ _ _ hle h1
      refine WC.region ?_
      refine WL.step ?_
      refine WL.move rfl rfl ?_
      refine WL.step ?_
      refine WL.move rfl rfl ?_
      refine WL.step ?_
      refine WL.add rfl rfl rfl ⟨by omega, by omega⟩ ?_
      refine WL.step ?_
      refine WL.call1A (res := fun y : List Nat × Option Addr × Nat => tv t1 y.2.1 y.2.2) (c1 := fun y : List Nat × Option Addr × Nat => own y.1 t1 (tv t1 y.2.1 y.2.2)) (c2 := fun _ => pt bp (pcell text a1 x1) 109) (bs := pcell text a x) F.fun101 rfl rfl (by repeat (first | exact Rem.here | apply Rem.there)) (fun w hS => hN w (hS.heap (by repeat (first | exact List.Mem.head _ | apply List.Mem.tail)))) (fun y18 => ?_)
      refine WL.step ?_
      refine WL.buildSlice F.sl72 F.ez72 rfl rfl rfl rfl (by repeat (first | exact Built.nil | apply Built.one rfl rfl (by repeat constructor) | apply Built.agg rfl rfl (by repeat constructor))) rfl (fun b19 => ?_)
      refine WL.step ?_
      refine WL.assign rfl rfl ?_
      refine WL.nil ?_
      refine WQ.then_normal ?_
      refine WC.seq ?_
      refine WC.block ?_
      refine WC.chunks (C' := [pt bp (pcell text a1 x1) 109, rowc (.slice (some ⟨b19, 0, none⟩) 1 1) 1 74 3 (flat [tv t1 y18.2.1 y18.2.2]), ownL ([] ++ y18.1) ([] ++ [t1]) ([] ++ [tv t1 y18.2.1 y18.2.2]), pt b5 [Value.string (str [124]), .int .u8 6, .string (str [94]), .int .u8 7, .string (str [38]), .int .u8 5] 157, pt b4 [Value.int .u8 0, .string (str []), .slice none 0 0] 74]) (fun w hS => ?_) ?_
      · have h1 := St.rowOf (n := 1) (sz := 3) (St.pick hS (c := pt b19 [Value.int .u8 t1.op, .string (str t1.name), .slice y18.2.1 t1.kids.length y18.2.2] 74) (by repeat (first | exact Rem.here | apply Rem.there))) rfl (by decide)
        have h2 := St.ownSnoc (St.ownNil (St.pick h1 (c := own y18.1 t1 (tv t1 y18.2.1 y18.2.2)) (by repeat (first | exact Rem.here | apply Rem.there))))
        exact (St.pick (St.pick h2 (c := rowc (.slice (some ⟨b19, 0, none⟩) 1 1) 1 74 3 (flat [tv t1 y18.2.1 y18.2.2])) (by repeat (first | exact Rem.here | apply Rem.there))) (c := pt bp (pcell text a1 x1) 109) (by repeat (first | exact Rem.here | apply Rem.there)))
      refine WC.loop (α := RG) (fun g => g.m ≤ n ∧ g.acc.length ≤ g.ak + 1 ∧ g.len = g.acc.length ∧ g.cells = flat g.vs ∧ g.ak + g.xk.length ≤ text.length ∧ Fm.parse text g.m (.rest i g.acc) g.ak g.xk = some r) (fun g => [(0, pp bp), (1, .int .i64 (i : Int)), (4, pp b4), (5, pp b5), (6, .slice g.ad g.len g.cap)]) (fun g => [pt bp (pcell text g.ak g.xk) 109, rowc (.slice g.ad g.len g.cap) g.len 74 3 g.cells, ownL g.F g.acc g.vs, pt b5 [Value.string (str [124]), .int .u8 6, .string (str [94]), .int .u8 7, .string (str [38]), .int .u8 5] 157, pt b4 [Value.int .u8 0, .string (str []), .slice none 0 0] 74]) (fun g => g.m) (⟨n, [t1], y18.1, [tv t1 y18.2.1 y18.2.2], 1, flat [tv t1 y18.2.1 y18.2.2], some ⟨b19, 0, none⟩, 1, a1, x1⟩) ?_ ?_ ?_ ?_
      · exact ⟨Nat.le_refl _, by simp, rfl, rfl, g1.2, hr1⟩
      · exact ⟨rfl, rfl, rfl, rfl, rfl, trivial⟩
      · rfl
      rintro ⟨m, acc, Fb, vs, len, cells, ad, cap, ak, xk⟩ ⟨hm, hac, hlen, hcs, hle2, hrk⟩
      dsimp only at hm hac hlen hcs hle2 hrk
      show WC _ _ _ _ _ _ _ [(0, pp bp), (1, .int .i64 (i : Int)), (4, pp b4), (5, pp b5), (6, .slice ad len cap)] [pt bp (pcell text ak xk) 109, rowc (.slice ad len cap) len 74 3 cells, ownL Fb acc vs, pt b5 [Value.string (str [124]), .int .u8 6, .string (str [94]), .int .u8 7, .string (str [38]), .int .u8 5] 157, pt b4 [Value.int .u8 0, .string (str []), .slice none 0 0] 74]
      obtain ⟨m, rfl⟩ : ∃ m2, m = m2 + 1 := by cases m with | zero => simp [Fm.parse] at hrk | succ m => exact ⟨m, rfl⟩
      simp only [Fm.parse] at hrk
      have hsg : [Value.string (str [124]), .int .u8 6, .string (str [94]), .int .u8 7, .string (str [38]), .int .u8 5][0 + i * 2 + 0]? = some (.string (str (Fm.rowSign i))) := by rcases (by omega : i = 0 ∨ i = 1 ∨ i = 2) with rfl | rfl | rfl <;> rfl
      have hop : [Value.string (str [124]), .int .u8 6, .string (str [94]), .int .u8 7, .string (str [38]), .int .u8 5][0 + i * 2 + 1]? = some (.int .u8 (Fm.rowOp i)) := by rcases (by omega : i = 0 ∨ i = 1 ∨ i = 2) with rfl | rfl | rfl <;> rfl
      refine WC.seq ?_
      refine WC.seq ?_
      rcases Fm.bindT_ok hrk with ⟨ht, hrk2⟩ | ⟨a2, x2, ht, hrk2⟩ | ⟨a2, ht, rfl⟩
      · skip
        have hT := fun w hp => takes_c bp text xk (Fm.rowSign i) ak hle2 hmax w hp
        rw [ht] at hT
        refine WC.region ?_
        refine WL.step ?_
        refine WL.move rfl rfl ?_
        refine WL.step ?_
        refine WL.move rfl rfl ?_
        refine WL.step ?_
        refine WL.indexAddrA F.arT157 rfl rfl rfl hi3 ?_
        refine WL.step ?_
        refine WL.fieldAddr F.fld156_0 rfl rfl ?_
        refine WL.step ?_
        refine WL.loadP F.one9 rfl rfl (by repeat (first | exact List.Mem.head _ | apply List.Mem.tail)) hsg ?_
        refine WL.step ?_
        refine WL.call1S (bs := pcell text ak xk) (bs' := pcell text ak xk) F.fun87 rfl rfl (by repeat (first | exact Rem.here | apply Rem.there)) (fun w hS => hT w (hS.heap (by repeat (first | exact List.Mem.head _ | apply List.Mem.tail)))) ?_
        refine WL.nil ?_
        refine WQ.then_normal ?_
        refine WC.condF rfl ?_
        refine WC.exit ?_
        refine WQ.then_exit ?_
        refine WQ.then_exit ?_
        refine WQ.block_exit ?_
        refine WQ.then_normal ?_
        refine WC.seq ?_
        refine WC.seq ?_
        refine WC.region ?_
        refine WL.step ?_
        refine WL.move rfl rfl ?_
        refine WL.step ?_
        refine WL.lenSl F.und72 rfl rfl ?_
        refine WL.step ?_
        refine WL.eqI rfl rfl rfl ?_
        refine WL.nil ?_
        refine WQ.then_normal ?_
        refine WC.cond rfl (fun h35 => ?_) (fun h35 => ?_)
        · skip
          have hl1 : len = 1 := by simp at h35; omega
          subst hcs
          obtain ⟨t1, rfl⟩ : ∃ t, acc = [t] := List.length_eq_one_iff.1 (by omega)
          injection hrk2 with hrk2
          subst hrk2
          refine WC.know (φ := ∃ g a c, ad = some ⟨g, 0, none⟩ ∧ vs = [tv t1 a c]) (fun w hS => St.lone hl1 (St.pick (St.pick hS (c := ownL Fb [t1] vs) (by repeat (first | exact Rem.here | apply Rem.there))) (c := rowc (.slice ad len cap) len 74 3 (flat vs)) (by repeat (first | exact Rem.here | apply Rem.there)))) (fun ⟨g, u, c, had, hvs⟩ => ?_)
          subst had; subst hvs
          refine WC.seq ?_
          refine WC.region ?_
          refine WL.step ?_
          refine WL.move rfl rfl ?_
          refine WL.step ?_
          refine WL.indexAddr (i := 0) F.sl72 rfl rfl rfl (by omega) ?_
          refine WL.step ?_
          refine WL.loadN F.agg74 rfl rfl (vs := [Value.int .u8 t1.op, .string (str t1.name), .slice u t1.kids.length c]) rfl (fun w hS j v hv => ?_) ?_
          · have hro : w.ownsRow 0 74 3 (.slice (some ⟨g, 0, none⟩) len cap) len (flat [tv t1 u c]) := hS.ok (rowc (.slice (some ⟨g, 0, none⟩) len cap) len 74 3 (flat [tv t1 u c])) (by repeat (first | exact List.Mem.head _ | apply List.Mem.tail))
            have hq := hro.cells (g := g) rfl j v (by simpa [flat, tv, Value.cells] using hv)
            rw [add_blk] at hq
            simpa using hq
          refine WL.step ?_
          refine WL.storeN F.agg74 rfl rfl rfl (by simp [Value.oneCell']) (by repeat (first | exact Upd.here | apply Upd.there)) (by repeat constructor) ?_
          refine WL.nil ?_
          refine WQ.then_normal ?_
          refine WC.ret ?_
          refine WQ.then_ret ?_
          refine WQ.ret (rs := [.cell 4 74]) rfl (.cellN F.agg74 rfl (by repeat (first | exact List.Mem.head _ | apply List.Mem.tail)) rfl .nil) (fun w hS => ?_)
          have h2 := St.ownOne (St.pick (St.pick hS (c := pt bp (pcell text ak xk) 109) (by repeat (first | exact Rem.here | apply Rem.there))) (c := ownL Fb [t1] [tv t1 u c]) (by repeat (first | exact Rem.here | apply Rem.there)))
          exact ⟨(Fb, u, c), rfl, h2.two2⟩
        · skip
          have hl1 : acc.length ≠ 1 := by simp at h35; omega
          subst hcs
          rw [mkRow_ne hl1] at hrk2
          injection hrk2 with hrk2
          subst hrk2
          refine WC.skip ?_
          refine WQ.then_normal ?_
          refine WC.seq ?_
          refine WC.region ?_
          refine WL.step ?_
          refine WL.move rfl rfl ?_
          refine WL.step ?_
          refine WL.indexAddrA F.arT157 rfl rfl rfl hi3 ?_
          refine WL.step ?_
          refine WL.fieldAddr F.fld156_1 rfl rfl ?_
          refine WL.step ?_
          refine WL.loadP F.one5 rfl rfl (by repeat (first | exact List.Mem.head _ | apply List.Mem.tail)) hop ?_
          refine WL.step ?_
          refine WL.move rfl rfl ?_
          refine WL.step ?_
          refine WL.callV F.fun89 rfl rfl (fun w _ => node_c _ _ _ _ w) ?_
          refine WL.step ?_
          refine WL.storeN F.agg74 rfl rfl rfl (by simp [Value.oneCell']) (by repeat (first | exact Upd.here | apply Upd.there)) (by repeat constructor) ?_
          refine WL.nil ?_
          refine WQ.then_normal ?_
          refine WC.ret ?_
          refine WQ.ret (rs := [.cell 4 74]) rfl (.cellN F.agg74 rfl (by repeat (first | exact List.Mem.head _ | apply List.Mem.tail)) rfl .nil) (fun w hS => ?_)
          obtain ⟨F2, h2⟩ := St.ownNode (Fm.rowOp i) [] hlen (St.pick (St.pick (St.pick hS (c := pt bp (pcell text ak xk) 109) (by repeat (first | exact Rem.here | apply Rem.there))) (c := ownL Fb acc vs) (by repeat (first | exact Rem.here | apply Rem.there))) (c := rowc (.slice ad len cap) len 74 3 (flat vs)) (by repeat (first | exact Rem.here | apply Rem.there)))
          subst hlen
          exact ⟨(F2, ad, cap), rfl, h2.two2⟩
      · skip
        have hT := fun w hp => takes_c bp text xk (Fm.rowSign i) ak hle2 hmax w hp
        rw [ht] at hT
        have g2 := Fm.takes_le hle2 ht
        refine WC.region ?_
        refine WL.step ?_
        refine WL.move rfl rfl ?_
        refine WL.step ?_
        refine WL.move rfl rfl ?_
        refine WL.step ?_
        refine WL.indexAddrA F.arT157 rfl rfl rfl hi3 ?_
        refine WL.step ?_
        refine WL.fieldAddr F.fld156_0 rfl rfl ?_
        refine WL.step ?_
        refine WL.loadP F.one9 rfl rfl (by repeat (first | exact List.Mem.head _ | apply List.Mem.tail)) hsg ?_
        refine WL.step ?_
        refine WL.call1S (bs := pcell text ak xk) (bs' := pcell text a2 x2) F.fun87 rfl rfl (by repeat (first | exact Rem.here | apply Rem.there)) (fun w hS => hT w (hS.heap (by repeat (first | exact List.Mem.head _ | apply List.Mem.tail)))) ?_
        refine WL.nil ?_
        refine WQ.then_normal ?_
        refine WC.condT rfl ?_
        refine WC.skip ?_
        refine WQ.then_normal ?_
        refine WC.block ?_
        rcases Fm.bindP_ok hrk2 with ⟨a3, h3, rfl⟩ | ⟨t2, a3, x3, h3, hr3⟩
        · skip
          have hM := fun w hp => hrow hi3 m (by omega) _ _ _ w g2.2 h3 hp
          refine WC.region ?_
          refine WL.step ?_
          refine WL.move rfl rfl ?_
          refine WL.step ?_
          refine WL.move rfl rfl ?_
          refine WL.step ?_
          refine WL.move rfl rfl ?_
          refine WL.step ?_
          refine WL.add rfl rfl rfl ⟨by omega, by omega⟩ ?_
          refine WL.step ?_
          refine WL.call1P (bs := pcell text a2 x2) F.fun101 (fun d h => by cases h; rfl) rfl (by repeat (first | exact Rem.here | apply Rem.there)) (fun w hS => hM w (hS.heap (by repeat (first | exact List.Mem.head _ | apply List.Mem.tail)))) (fun cs => ?_)
          refine WQ.block_panic ?_
          refine WQ.then_panic ?_
          refine WQ.block_panic ?_
          refine WQ.then_panic ?_
          refine WQ.panicked (fun w hS => ?_)
          exact ⟨rfl, _, (St.pick hS (c := pt bp cs 109) (by repeat (first | exact Rem.here | apply Rem.there))).one1⟩
        · skip
          have hM := fun w hp => hrow hi3 m (by omega) _ _ _ w g2.2 h3 hp
          have g3 := Fm.parse_le _ _ _ _ _ _ _ g2.2 h3
          refine WC.region ?_
          refine WL.step ?_
          refine WL.move rfl rfl ?_
          refine WL.step ?_
          refine WL.move rfl rfl ?_
          refine WL.step ?_
          refine WL.move rfl rfl ?_
          refine WL.step ?_
          refine WL.add rfl rfl rfl ⟨by omega, by omega⟩ ?_
          refine WL.step ?_
          refine WL.call1A (res := fun y : List Nat × Option Addr × Nat => tv t2 y.2.1 y.2.2) (c1 := fun y : List Nat × Option Addr × Nat => own y.1 t2 (tv t2 y.2.1 y.2.2)) (c2 := fun _ => pt bp (pcell text a3 x3) 109) (bs := pcell text a2 x2) F.fun101 rfl rfl (by repeat (first | exact Rem.here | apply Rem.there)) (fun w hS => hM w (hS.heap (by repeat (first | exact List.Mem.head _ | apply List.Mem.tail)))) (fun y30 => ?_)
          refine WL.step ?_
          refine WL.buildSlice F.sl72 F.ez72 rfl rfl rfl rfl (by repeat (first | exact Built.nil | apply Built.one rfl rfl (by repeat constructor) | apply Built.agg rfl rfl (by repeat constructor))) rfl (fun b31 => ?_)
          refine WL.step ?_
          refine WL.appendE (news := [Value.int .u8 t2.op, .string (str t2.name), .slice y30.2.1 t2.kids.length y30.2.2]) F.el72 rfl rfl rfl (by repeat (first | exact Rem.here | apply Rem.there)) (fun w hS j u hu => by rw [Nat.zero_add]; exact hS.cell (cs := [Value.int .u8 t2.op, .string (str t2.name), .slice y30.2.1 t2.kids.length y30.2.2]) (by repeat (first | exact List.Mem.head _ | apply List.Mem.tail)) hu) rfl (by simp [Value.oneCell']) (Nat.le_trans (m := 1099511627800) (by have := next_le3 hle2; omega) (by decide)) (by have := next_le3 hle2; omega) (fun ad2 cap2 => ?_)
          refine WL.step ?_
          refine WL.assign rfl rfl ?_
          refine WL.nil ?_
          refine WQ.block_normal ?_
          refine WQ.chunks (C' := [pt bp (pcell text a3 x3) 109, rowc (.slice ad2 (len + 1) cap2) (len + 1) 74 3 (cells ++ [Value.int .u8 t2.op, .string (str t2.name), .slice y30.2.1 t2.kids.length y30.2.2]), ownL (Fb ++ y30.1) (acc ++ [t2]) (vs ++ [tv t2 y30.2.1 y30.2.2]), pt b5 [Value.string (str [124]), .int .u8 6, .string (str [94]), .int .u8 7, .string (str [38]), .int .u8 5] 157, pt b4 [Value.int .u8 0, .string (str []), .slice none 0 0] 74]) (fun w hS => ?_) ?_
          · have h2 := St.ownSnoc (St.pick (St.pick hS (c := own y30.1 t2 (tv t2 y30.2.1 y30.2.2)) (by repeat (first | exact Rem.here | apply Rem.there))) (c := ownL Fb acc vs) (by repeat (first | exact Rem.here | apply Rem.there)))
            exact ((St.pick (St.pick (St.pick h2 (c := ownL (Fb ++ y30.1) (acc ++ [t2]) (vs ++ [tv t2 y30.2.1 y30.2.2])) (by repeat (first | exact Rem.here | apply Rem.there))) (c := rowc (.slice ad2 (len + 1) cap2) (len + 1) 74 3 (cells ++ [Value.int .u8 t2.op, .string (str t2.name), .slice y30.2.1 t2.kids.length y30.2.2])) (by repeat (first | exact Rem.here | apply Rem.there))) (c := pt bp (pcell text a3 x3) 109) (by repeat (first | exact Rem.here | apply Rem.there)))).sublist (by repeat (first | exact List.Sublist.refl _ | apply List.Sublist.cons_cons | apply List.Sublist.cons))
          refine WQ.back (⟨m, acc ++ [t2], Fb ++ y30.1, vs ++ [tv t2 y30.2.1 y30.2.2], len + 1, cells ++ [Value.int .u8 t2.op, .string (str t2.name), .slice y30.2.1 t2.kids.length y30.2.2], ad2, cap2, a3, x3⟩) ?_ ?_ ?_ ?_
          · exact ⟨by show m ≤ n; omega, by have hw := takes_word ht; have hsl : (Fm.rowSign i).length = 1 := (by unfold Fm.rowSign; split; rfl; split <;> rfl); rw [hw, hsl] at g2; show (acc ++ [t2]).length ≤ a3 + 1; simp; omega, by show len + 1 = (acc ++ [t2]).length; simp [hlen], by show cells ++ _ = flat (vs ++ [_]); rw [hcs, flat_append]; simp [flat, tv, Value.cells], g3.2, hr3⟩
          · exact Nat.lt_succ_self m
          · exact ⟨rfl, rfl, rfl, rfl, rfl, trivial⟩
          · rfl
      · skip
        have hT := fun w hp => takes_c bp text xk (Fm.rowSign i) ak hle2 hmax w hp
        rw [ht] at hT
        refine WC.region ?_
        refine WL.step ?_
        refine WL.move rfl rfl ?_
        refine WL.step ?_
        refine WL.move rfl rfl ?_
        refine WL.step ?_
        refine WL.indexAddrA F.arT157 rfl rfl rfl hi3 ?_
        refine WL.step ?_
        refine WL.fieldAddr F.fld156_0 rfl rfl ?_
        refine WL.step ?_
        refine WL.loadP F.one9 rfl rfl (by repeat (first | exact List.Mem.head _ | apply List.Mem.tail)) hsg ?_
        refine WL.step ?_
        refine WL.call1P (bs := pcell text ak xk) F.fun87 (fun d h => by cases h; rfl) rfl (by repeat (first | exact Rem.here | apply Rem.there)) (fun w hS => hT w (hS.heap (by repeat (first | exact List.Mem.head _ | apply List.Mem.tail)))) (fun cs => ?_)
        refine WQ.then_panic ?_
        refine WQ.then_panic ?_
        refine WQ.then_panic ?_
        refine WQ.block_panic ?_
        refine WQ.then_panic ?_
        refine WQ.panicked (fun w hS => ?_)
        exact ⟨rfl, _, (St.pick hS (c := pt bp cs 109) (by repeat (first | exact Rem.here | apply Rem.there))).one1⟩

end Go.Proofs.Ytkgllhkhdjodeaa

namespace Go.Proofs.Ytkgllhkhdjodeaa
open Go Go.Eng Go.Proofs
theorem kids_c (op : Int) (w : World) : Pure Try.prog 102 [.int .u8 op] w (.tuple #[.int .i64 (Fm.kidsOf op).1, .bool (Fm.kidsOf op).2]) := by
  refine enter Try.func102 rfl Try.ntmps102 rfl (St.init _) ?_
  refine WC.seq ?_
  refine WC.region ?_
  refine WL.step ?_
  refine WL.assign rfl rfl ?_
  refine WL.step ?_
  refine WL.assign rfl rfl ?_
  refine WL.nil ?_
  refine WQ.then_normal ?_
  refine WC.seq ?_
  refine WC.seq ?_
  refine WC.region ?_
  refine WL.step ?_
  refine WL.move rfl rfl ?_
  refine WL.nil ?_
  refine WQ.then_normal ?_
  refine WC.block ?_
  refine WC.seq ?_
  refine WC.seq ?_
  refine WC.region ?_
  refine WL.step ?_
  refine WL.eqI rfl rfl rfl ?_
  refine WL.step ?_
  refine WL.assign rfl rfl ?_
  refine WL.nil ?_
  refine WQ.then_normal ?_
  refine WC.splitB (i := 5) rfl (fun h5 => ?_) (fun h5 => ?_)
  · skip
    refine WC.condT rfl ?_
    refine WC.skip ?_
    refine WQ.then_normal ?_
    refine WC.condT rfl ?_
    refine WC.seq ?_
    refine WC.region ?_
    refine WL.step ?_
    refine WL.assign rfl rfl ?_
    refine WL.step ?_
    refine WL.assign rfl rfl ?_
    refine WL.nil ?_
    refine WQ.then_normal ?_
    refine WC.ret ?_
    refine WQ.block_ret ?_
    refine WQ.then_ret ?_
    exact WQ.ret (rs := [.tmp 2, .tmp 3]) rfl (.tmp rfl (.tmp rfl .nil)) (fun w hS => ⟨by simp_all [tup, Fm.kidsOf], hS⟩)
  · skip
    refine WC.condF rfl ?_
    refine WC.seq ?_
    refine WC.region ?_
    refine WL.step ?_
    refine WL.eqI rfl rfl rfl ?_
    refine WL.step ?_
    refine WL.assign rfl rfl ?_
    refine WL.nil ?_
    refine WQ.then_normal ?_
    refine WC.splitB (i := 5) rfl (fun h5 => ?_) (fun h5 => ?_)
    · skip
      refine WC.condT rfl ?_
      refine WC.skip ?_
      refine WQ.then_normal ?_
      refine WC.condT rfl ?_
      refine WC.seq ?_
      refine WC.region ?_
      refine WL.step ?_
      refine WL.assign rfl rfl ?_
      refine WL.step ?_
      refine WL.assign rfl rfl ?_
      refine WL.nil ?_
      refine WQ.then_normal ?_
      refine WC.ret ?_
      refine WQ.block_ret ?_
      refine WQ.then_ret ?_
      exact WQ.ret (rs := [.tmp 2, .tmp 3]) rfl (.tmp rfl (.tmp rfl .nil)) (fun w hS => ⟨by simp_all [tup, Fm.kidsOf], hS⟩)
    · skip
      refine WC.condF rfl ?_
      refine WC.region ?_
      refine WL.step ?_
      refine WL.eqI rfl rfl rfl ?_
      refine WL.step ?_
      refine WL.assign rfl rfl ?_
      refine WL.nil ?_
      refine WQ.then_normal ?_
      refine WC.splitB (i := 5) rfl (fun h5 => ?_) (fun h5 => ?_)
      · skip
        refine WC.condT rfl ?_
        refine WC.seq ?_
        refine WC.region ?_
        refine WL.step ?_
        refine WL.assign rfl rfl ?_
        refine WL.step ?_
        refine WL.assign rfl rfl ?_
        refine WL.nil ?_
        refine WQ.then_normal ?_
        refine WC.ret ?_
        refine WQ.block_ret ?_
        refine WQ.then_ret ?_
        exact WQ.ret (rs := [.tmp 2, .tmp 3]) rfl (.tmp rfl (.tmp rfl .nil)) (fun w hS => ⟨by simp_all [tup, Fm.kidsOf], hS⟩)
      · skip
        refine WC.condF rfl ?_
        refine WC.seq ?_
        refine WC.region ?_
        refine WL.step ?_
        refine WL.eqI rfl rfl rfl ?_
        refine WL.step ?_
        refine WL.assign rfl rfl ?_
        refine WL.nil ?_
        refine WQ.then_normal ?_
        refine WC.cond rfl (fun h9 => ?_) (fun h9 => ?_)
        · skip
          refine WC.seq ?_
          refine WC.region ?_
          refine WL.step ?_
          refine WL.assign rfl rfl ?_
          refine WL.step ?_
          refine WL.assign rfl rfl ?_
          refine WL.nil ?_
          refine WQ.then_normal ?_
          refine WC.ret ?_
          refine WQ.block_ret ?_
          refine WQ.then_ret ?_
          exact WQ.ret (rs := [.tmp 2, .tmp 3]) rfl (.tmp rfl (.tmp rfl .nil)) (fun w hS => ⟨by simp_all [tup, Fm.kidsOf], hS⟩)
        · skip
          refine WC.seq ?_
          refine WC.seq ?_
          refine WC.region ?_
          refine WL.step ?_
          refine WL.eqI rfl rfl rfl ?_
          refine WL.step ?_
          refine WL.assign rfl rfl ?_
          refine WL.nil ?_
          refine WQ.then_normal ?_
          refine WC.splitB (i := 11) rfl (fun h11 => ?_) (fun h11 => ?_)
          · skip
            refine WC.condT rfl ?_
            refine WC.skip ?_
            refine WQ.then_normal ?_
            refine WC.condT rfl ?_
            refine WC.seq ?_
            refine WC.region ?_
            refine WL.step ?_
            refine WL.assign rfl rfl ?_
            refine WL.step ?_
            refine WL.assign rfl rfl ?_
            refine WL.nil ?_
            refine WQ.then_normal ?_
            refine WC.ret ?_
            refine WQ.block_ret ?_
            refine WQ.then_ret ?_
            exact WQ.ret (rs := [.tmp 2, .tmp 3]) rfl (.tmp rfl (.tmp rfl .nil)) (fun w hS => ⟨by simp_all [tup, Fm.kidsOf], hS⟩)
          · skip
            refine WC.condF rfl ?_
            refine WC.seq ?_
            refine WC.region ?_
            refine WL.step ?_
            refine WL.eqI rfl rfl rfl ?_
            refine WL.step ?_
            refine WL.assign rfl rfl ?_
            refine WL.nil ?_
            refine WQ.then_normal ?_
            refine WC.splitB (i := 11) rfl (fun h11 => ?_) (fun h11 => ?_)
            · skip
              refine WC.condT rfl ?_
              refine WC.skip ?_
              refine WQ.then_normal ?_
              refine WC.condT rfl ?_
              refine WC.seq ?_
              refine WC.region ?_
              refine WL.step ?_
              refine WL.assign rfl rfl ?_
              refine WL.step ?_
              refine WL.assign rfl rfl ?_
              refine WL.nil ?_
              refine WQ.then_normal ?_
              refine WC.ret ?_
              refine WQ.block_ret ?_
              refine WQ.then_ret ?_
              exact WQ.ret (rs := [.tmp 2, .tmp 3]) rfl (.tmp rfl (.tmp rfl .nil)) (fun w hS => ⟨by simp_all [tup, Fm.kidsOf], hS⟩)
            · skip
              refine WC.condF rfl ?_
              refine WC.region ?_
              refine WL.step ?_
              refine WL.eqI rfl rfl rfl ?_
              refine WL.step ?_
              refine WL.assign rfl rfl ?_
              refine WL.nil ?_
              refine WQ.then_normal ?_
              refine WC.splitB (i := 11) rfl (fun h11 => ?_) (fun h11 => ?_)
              · skip
                refine WC.condT rfl ?_
                refine WC.seq ?_
                refine WC.region ?_
                refine WL.step ?_
                refine WL.assign rfl rfl ?_
                refine WL.step ?_
                refine WL.assign rfl rfl ?_
                refine WL.nil ?_
                refine WQ.then_normal ?_
                refine WC.ret ?_
                refine WQ.block_ret ?_
                refine WQ.then_ret ?_
                exact WQ.ret (rs := [.tmp 2, .tmp 3]) rfl (.tmp rfl (.tmp rfl .nil)) (fun w hS => ⟨by simp_all [tup, Fm.kidsOf], hS⟩)
              · skip
                refine WC.condF rfl ?_
                refine WC.seq ?_
                refine WC.seq ?_
                refine WC.region ?_
                refine WL.step ?_
                refine WL.eqI rfl rfl rfl ?_
                refine WL.step ?_
                refine WL.assign rfl rfl ?_
                refine WL.nil ?_
                refine WQ.then_normal ?_
                refine WC.splitB (i := 15) rfl (fun h15 => ?_) (fun h15 => ?_)
                · skip
                  refine WC.condT rfl ?_
                  refine WC.skip ?_
                  refine WQ.then_normal ?_
                  refine WC.condT rfl ?_
                  refine WC.seq ?_
                  refine WC.region ?_
                  refine WL.step ?_
                  refine WL.assign rfl rfl ?_
                  refine WL.step ?_
                  refine WL.assign rfl rfl ?_
                  refine WL.nil ?_
                  refine WQ.then_normal ?_
                  refine WC.ret ?_
                  refine WQ.block_ret ?_
                  refine WQ.then_ret ?_
                  exact WQ.ret (rs := [.tmp 2, .tmp 3]) rfl (.tmp rfl (.tmp rfl .nil)) (fun w hS => ⟨by simp_all [tup, Fm.kidsOf], hS⟩)
                · skip
                  refine WC.condF rfl ?_
                  refine WC.region ?_
                  refine WL.step ?_
                  refine WL.eqI rfl rfl rfl ?_
                  refine WL.step ?_
                  refine WL.assign rfl rfl ?_
                  refine WL.nil ?_
                  refine WQ.then_normal ?_
                  refine WC.splitB (i := 15) rfl (fun h15 => ?_) (fun h15 => ?_)
                  · skip
                    refine WC.condT rfl ?_
                    refine WC.seq ?_
                    refine WC.region ?_
                    refine WL.step ?_
                    refine WL.assign rfl rfl ?_
                    refine WL.step ?_
                    refine WL.assign rfl rfl ?_
                    refine WL.nil ?_
                    refine WQ.then_normal ?_
                    refine WC.ret ?_
                    refine WQ.block_ret ?_
                    refine WQ.then_ret ?_
                    exact WQ.ret (rs := [.tmp 2, .tmp 3]) rfl (.tmp rfl (.tmp rfl .nil)) (fun w hS => ⟨by simp_all [tup, Fm.kidsOf], hS⟩)
                  · skip
                    refine WC.condF rfl ?_
                    refine WC.seq ?_
                    refine WC.region ?_
                    refine WL.step ?_
                    refine WL.eqI rfl rfl rfl ?_
                    refine WL.step ?_
                    refine WL.assign rfl rfl ?_
                    refine WL.nil ?_
                    refine WQ.then_normal ?_
                    refine WC.cond rfl (fun h18 => ?_) (fun h18 => ?_)
                    · skip
                      refine WC.seq ?_
                      refine WC.region ?_
                      refine WL.step ?_
                      refine WL.assign rfl rfl ?_
                      refine WL.step ?_
                      refine WL.assign rfl rfl ?_
                      refine WL.nil ?_
                      refine WQ.then_normal ?_
                      refine WC.ret ?_
                      refine WQ.block_ret ?_
                      refine WQ.then_ret ?_
                      exact WQ.ret (rs := [.tmp 2, .tmp 3]) rfl (.tmp rfl (.tmp rfl .nil)) (fun w hS => ⟨by simp_all [tup, Fm.kidsOf], hS⟩)
                    · skip
                      refine WC.skip ?_
                      refine WQ.block_normal ?_
                      refine WQ.then_normal ?_
                      refine WC.seq ?_
                      refine WC.region ?_
                      refine WL.step ?_
                      refine WL.assign rfl rfl ?_
                      refine WL.step ?_
                      refine WL.assign rfl rfl ?_
                      refine WL.nil ?_
                      refine WQ.then_normal ?_
                      refine WC.ret ?_
                      exact WQ.ret (rs := [.tmp 2, .tmp 3]) rfl (.tmp rfl (.tmp rfl .nil)) (fun w hS => ⟨by simp_all [tup, Fm.kidsOf], hS⟩)

theorem right_c (t : Tree) (a : Option Addr) (c : Nat) (w : World) : Pure Try.prog 97 [tv t a c] w (.bool (Fm.rightB t)) := by
  refine enter Try.func97 rfl Try.ntmps97 rfl (St.init _) ?_
  refine WC.seq ?_
  refine WC.region ?_
  refine WL.step ?_
  refine WL.boxN rfl rfl (fun b1 => ?_)
  refine WL.step ?_
  refine WL.assign rfl rfl ?_
  refine WL.nil ?_
  refine WQ.then_normal ?_
  refine WC.seq ?_
  refine WC.region ?_
  refine WL.step ?_
  refine WL.fieldAddr0 F.fld74_0 rfl rfl ?_
  refine WL.step ?_
  refine WL.loadP F.one5 rfl rfl (by repeat (first | exact List.Mem.head _ | apply List.Mem.tail)) rfl ?_
  refine WL.step ?_
  refine WL.callV F.fun102 rfl rfl (fun w _ => kids_c _ w) ?_
  refine WL.step ?_
  refine WL.move rfl rfl ?_
  refine WL.step ?_
  refine WL.extract rfl rfl rfl ?_
  refine WL.step ?_
  refine WL.extract rfl rfl rfl ?_
  refine WL.step ?_
  refine WL.assign rfl rfl ?_
  refine WL.step ?_
  refine WL.assign rfl rfl ?_
  refine WL.nil ?_
  refine WQ.then_normal ?_
  refine WC.seq ?_
  refine WC.block ?_
  refine WC.seq ?_
  refine WC.cutF [(11, .bool (Fm.kidsBad t.op t.kids.length)), (1, pp b1)] (fun Q' hQ => ?_) ?_
  · skip
    refine WC.region ?_
    refine WL.step ?_
    refine WL.move rfl rfl ?_
    refine WL.step ?_
    refine WL.not rfl rfl ?_
    refine WL.step ?_
    refine WL.move rfl rfl ?_
    refine WA.splitB (i := 14) rfl (fun h14 => ?_) (fun h14 => ?_)
    · skip
      refine WL.step (WL.guardF rfl rfl rfl rfl rfl rfl ?_)
      refine WL.step (WL.guardF rfl rfl rfl rfl rfl rfl ?_)
      refine WL.step (WL.guardF rfl rfl rfl rfl rfl rfl ?_)
      refine WL.step (WL.guardU rfl rfl rfl rfl rfl ?_)
      refine WL.step (WL.guardU rfl rfl rfl rfl rfl ?_)
      refine WL.step (WL.guardU rfl rfl rfl rfl rfl ?_)
      refine WL.step (WL.guardU rfl rfl rfl rfl rfl ?_)
      refine WL.step (WL.guardF rfl rfl rfl rfl rfl rfl ?_)
      refine WL.step ?_
      refine WL.pickT rfl rfl rfl ?_
      refine WL.step ?_
      refine WL.move rfl rfl ?_
      refine WL.step (WL.guardF rfl rfl rfl rfl rfl rfl ?_)
      refine WL.step (WL.guardF rfl rfl rfl rfl rfl rfl ?_)
      refine WL.step (WL.guardF rfl rfl rfl rfl rfl rfl ?_)
      refine WL.step (WL.guardU rfl rfl rfl rfl rfl ?_)
      refine WL.step (WL.guardU rfl rfl rfl rfl rfl ?_)
      refine WL.step (WL.guardU rfl rfl rfl rfl rfl ?_)
      refine WL.step (WL.guardU rfl rfl rfl rfl rfl ?_)
      refine WL.step (WL.guardU rfl rfl rfl rfl rfl ?_)
      refine WL.step (WL.guardF rfl rfl rfl rfl rfl rfl ?_)
      refine WL.step ?_
      refine WL.pickT rfl rfl rfl ?_
      refine WL.step ?_
      refine WL.assign rfl rfl ?_
      refine WL.nil ?_
      refine WQ.byCut hQ (subF_bool ?_ ⟨rfl, trivial⟩ rfl)
      first | (rw [Fm.kidsBad, h14, h17]; simp [bne]; done) | (simp_all [Fm.kidsBad]; done)
    · skip
      refine WL.step (WL.guardT rfl rfl rfl ?_)
      refine WL.move rfl rfl ?_
      refine WL.step (WL.guardT rfl rfl rfl ?_)
      refine WL.eqI rfl rfl rfl ?_
      refine WL.step (WL.guardT rfl rfl rfl ?_)
      refine WL.move rfl rfl ?_
      refine WA.splitB (i := 17) rfl (fun h17 => ?_) (fun h17 => ?_)
      · skip
        refine WL.step (WL.guardT rfl rfl rfl ?_)
        refine WL.fieldAddr0 F.fld74_2 rfl rfl ?_
        refine WL.step (WL.guardT rfl rfl rfl ?_)
        refine WL.loadP F.one72 rfl rfl (by repeat (first | exact List.Mem.head _ | apply List.Mem.tail)) rfl ?_
        refine WL.step (WL.guardT rfl rfl rfl ?_)
        refine WL.lenSl F.und72 rfl rfl ?_
        refine WL.step (WL.guardT rfl rfl rfl ?_)
        refine WL.ltI rfl rfl rfl ?_
        refine WL.step (WL.guardT rfl rfl rfl ?_)
        refine WL.pickT rfl rfl rfl ?_
        refine WL.step ?_
        refine WL.pickF rfl rfl rfl ?_
        refine WL.step ?_
        refine WL.move rfl rfl ?_
        refine WA.splitB (i := 24) rfl (fun h24 => ?_) (fun h24 => ?_)
        · skip
          refine WL.step (WL.guardF rfl rfl rfl rfl rfl rfl ?_)
          refine WL.step (WL.guardF rfl rfl rfl rfl rfl rfl ?_)
          refine WL.step (WL.guardF rfl rfl rfl rfl rfl rfl ?_)
          refine WL.step (WL.guardU rfl rfl rfl rfl rfl ?_)
          refine WL.step (WL.guardU rfl rfl rfl rfl rfl ?_)
          refine WL.step (WL.guardU rfl rfl rfl rfl rfl ?_)
          refine WL.step (WL.guardU rfl rfl rfl rfl rfl ?_)
          refine WL.step (WL.guardU rfl rfl rfl rfl rfl ?_)
          refine WL.step (WL.guardF rfl rfl rfl rfl rfl rfl ?_)
          refine WL.step ?_
          refine WL.pickT rfl rfl rfl ?_
          refine WL.step ?_
          refine WL.assign rfl rfl ?_
          refine WL.nil ?_
          refine WQ.byCut hQ (subF_bool ?_ ⟨rfl, trivial⟩ rfl)
          first | (rw [Fm.kidsBad, h14, h17]; simp [bne]; done) | (simp_all [Fm.kidsBad]; done)
        · skip
          refine WL.step (WL.guardT rfl rfl rfl ?_)
          refine WL.move rfl rfl ?_
          refine WL.step (WL.guardT rfl rfl rfl ?_)
          refine WL.neI rfl rfl rfl ?_
          refine WL.step (WL.guardT rfl rfl rfl ?_)
          refine WL.move rfl rfl ?_
          refine WA.splitB (i := 27) rfl (fun h27 => ?_) (fun h27 => ?_)
          · skip
            refine WL.step (WL.guardT rfl rfl rfl ?_)
            refine WL.fieldAddr0 F.fld74_2 rfl rfl ?_
            refine WL.step (WL.guardT rfl rfl rfl ?_)
            refine WL.loadP F.one72 rfl rfl (by repeat (first | exact List.Mem.head _ | apply List.Mem.tail)) rfl ?_
            refine WL.step (WL.guardT rfl rfl rfl ?_)
            refine WL.lenSl F.und72 rfl rfl ?_
            refine WL.step (WL.guardT rfl rfl rfl ?_)
            refine WL.move rfl rfl ?_
            refine WL.step (WL.guardT rfl rfl rfl ?_)
            refine WL.neI rfl rfl rfl ?_
            refine WL.step (WL.guardT rfl rfl rfl ?_)
            refine WL.pickT rfl rfl rfl ?_
            refine WL.step ?_
            refine WL.pickF rfl rfl rfl ?_
            refine WL.step ?_
            refine WL.assign rfl rfl ?_
            refine WL.nil ?_
            refine WQ.byCut hQ (subF_bool ?_ ⟨rfl, trivial⟩ rfl)
            first | (rw [Fm.kidsBad, h14, h17]; simp [bne]; done) | (simp_all [Fm.kidsBad]; done)
          · skip
            refine WL.step (WL.guardF rfl rfl rfl rfl rfl rfl ?_)
            refine WL.step (WL.guardF rfl rfl rfl rfl rfl rfl ?_)
            refine WL.step (WL.guardF rfl rfl rfl rfl rfl rfl ?_)
            refine WL.step (WL.guardF rfl rfl rfl rfl rfl rfl ?_)
            refine WL.step (WL.guardF rfl rfl rfl rfl rfl rfl ?_)
            refine WL.step (WL.guardT rfl rfl rfl ?_)
            refine WL.pickF rfl rfl rfl ?_
            refine WL.step ?_
            refine WL.pickF rfl rfl rfl ?_
            refine WL.step ?_
            refine WL.assign rfl rfl ?_
            refine WL.nil ?_
            refine WQ.byCut hQ (subF_bool ?_ ⟨rfl, trivial⟩ rfl)
            first | (rw [Fm.kidsBad, h14, h17]; simp [bne]; done) | (simp_all [Fm.kidsBad]; done)
      · skip
        refine WL.step (WL.guardF rfl rfl rfl rfl rfl rfl ?_)
        refine WL.step (WL.guardF rfl rfl rfl rfl rfl rfl ?_)
        refine WL.step (WL.guardF rfl rfl rfl rfl rfl rfl ?_)
        refine WL.step (WL.guardF rfl rfl rfl rfl rfl rfl ?_)
        refine WL.step (WL.guardT rfl rfl rfl ?_)
        refine WL.pickF rfl rfl rfl ?_
        refine WL.step ?_
        refine WL.pickF rfl rfl rfl ?_
        refine WL.step ?_
        refine WL.move rfl rfl ?_
        refine WL.step (WL.guardT rfl rfl rfl ?_)
        refine WL.move rfl rfl ?_
        refine WL.step (WL.guardT rfl rfl rfl ?_)
        refine WL.neI rfl rfl rfl ?_
        refine WL.step (WL.guardT rfl rfl rfl ?_)
        refine WL.move rfl rfl ?_
        refine WA.splitB (i := 27) rfl (fun h27 => ?_) (fun h27 => ?_)
        · skip
          refine WL.step (WL.guardT rfl rfl rfl ?_)
          refine WL.fieldAddr0 F.fld74_2 rfl rfl ?_
          refine WL.step (WL.guardT rfl rfl rfl ?_)
          refine WL.loadP F.one72 rfl rfl (by repeat (first | exact List.Mem.head _ | apply List.Mem.tail)) rfl ?_
          refine WL.step (WL.guardT rfl rfl rfl ?_)
          refine WL.lenSl F.und72 rfl rfl ?_
          refine WL.step (WL.guardT rfl rfl rfl ?_)
          refine WL.move rfl rfl ?_
          refine WL.step (WL.guardT rfl rfl rfl ?_)
          refine WL.neI rfl rfl rfl ?_
          refine WL.step (WL.guardT rfl rfl rfl ?_)
          refine WL.pickT rfl rfl rfl ?_
          refine WL.step ?_
          refine WL.pickF rfl rfl rfl ?_
          refine WL.step ?_
          refine WL.assign rfl rfl ?_
          refine WL.nil ?_
          refine WQ.byCut hQ (subF_bool ?_ ⟨rfl, trivial⟩ rfl)
          first | (rw [Fm.kidsBad, h14, h17]; simp [bne]; done) | (simp_all [Fm.kidsBad]; done)
        · skip
          refine WL.step (WL.guardF rfl rfl rfl rfl rfl rfl ?_)
          refine WL.step (WL.guardF rfl rfl rfl rfl rfl rfl ?_)
          refine WL.step (WL.guardF rfl rfl rfl rfl rfl rfl ?_)
          refine WL.step (WL.guardF rfl rfl rfl rfl rfl rfl ?_)
          refine WL.step (WL.guardF rfl rfl rfl rfl rfl rfl ?_)
          refine WL.step (WL.guardT rfl rfl rfl ?_)
          refine WL.pickF rfl rfl rfl ?_
          refine WL.step ?_
          refine WL.pickF rfl rfl rfl ?_
          refine WL.step ?_
          refine WL.assign rfl rfl ?_
          refine WL.nil ?_
          refine WQ.byCut hQ (subF_bool ?_ ⟨rfl, trivial⟩ rfl)
          first | (rw [Fm.kidsBad, h14, h17]; simp [bne]; done) | (simp_all [Fm.kidsBad]; done)
  refine WQ.then_normal ?_
  refine WC.cond rfl (fun h11 => ?_) (fun h11 => ?_)
  · skip
    refine WC.seq ?_
    refine WC.region ?_
    refine WL.step ?_
    refine WL.assign rfl rfl ?_
    refine WL.nil ?_
    refine WQ.then_normal ?_
    refine WC.ret ?_
    refine WQ.block_ret ?_
    refine WQ.then_ret ?_
    exact WQ.ret (rs := [.tmp 2]) rfl (.tmp rfl .nil) (fun w hS => ⟨by simp_all [tup, Fm.rightB], hS.drop⟩)
  · skip
    refine WC.seq ?_
    refine WC.region ?_
    refine WL.step ?_
    refine WL.fieldAddr0 F.fld74_0 rfl rfl ?_
    refine WL.step ?_
    refine WL.loadP F.one5 rfl rfl (by repeat (first | exact List.Mem.head _ | apply List.Mem.tail)) rfl ?_
    refine WL.step ?_
    refine WL.eqI rfl rfl rfl ?_
    refine WL.step ?_
    refine WL.assign rfl rfl ?_
    refine WL.nil ?_
    refine WQ.then_normal ?_
    refine WC.cond rfl (fun h35 => ?_) (fun h35 => ?_)
    · skip
      refine WC.seq ?_
      refine WC.region ?_
      refine WL.step ?_
      refine WL.fieldAddr0 F.fld74_1 rfl rfl ?_
      refine WL.step ?_
      refine WL.loadP F.one9 rfl rfl (by repeat (first | exact List.Mem.head _ | apply List.Mem.tail)) rfl ?_
      refine WL.step ?_
      refine WL.callV F.fun85 rfl rfl (fun w _ => isName_c _ w) ?_
      refine WL.step ?_
      refine WL.assign rfl rfl ?_
      refine WL.nil ?_
      refine WQ.then_normal ?_
      refine WC.ret ?_
      refine WQ.block_ret ?_
      refine WQ.then_ret ?_
      exact WQ.ret (rs := [.tmp 2]) rfl (.tmp rfl .nil) (fun w hS => ⟨by simp_all [tup, Fm.rightB], hS.drop⟩)
    · skip
      refine WC.skip ?_
      refine WQ.block_normal ?_
      refine WQ.then_normal ?_
      refine WC.seq ?_
      refine WC.region ?_
      refine WL.step ?_
      refine WL.fieldAddr0 F.fld74_1 rfl rfl ?_
      refine WL.step ?_
      refine WL.loadP F.one9 rfl rfl (by repeat (first | exact List.Mem.head _ | apply List.Mem.tail)) rfl ?_
      refine WL.step ?_
      refine WL.eqS rfl rfl rfl ?_
      refine WL.step ?_
      refine WL.assign rfl rfl ?_
      refine WL.nil ?_
      refine WQ.then_normal ?_
      refine WC.ret ?_
      exact WQ.ret (rs := [.tmp 2]) rfl (.tmp rfl .nil) (fun w hS => ⟨by simp_all [tup, Fm.rightB], hS.drop⟩)

def VPost (bl : Nat) (w : World) : Option Nat → Ending → World → Prop
  | some l, e, w' => e = .returned (.bool true) ∧ St w [bl] [pt bl [.int .i64 (l : Int)] 3] w'
  | none, e, w' => ∃ cs, e = .returned (.bool false) ∧ St w [bl] [pt bl cs 3] w'
def NPost (bl : Nat) (w : World) : Option Nat → Ending → World → Prop
  | some l, e, w' => e = .returned (.bool false) ∧ St w [bl] [pt bl [.int .i64 (l : Int)] 3] w'
  | none, e, w' => ∃ cs, e = .returned (.bool true) ∧ St w [bl] [pt bl cs 3] w'
def IPost (bl : Nat) (w : World) : Option Nat → Ending → World → Prop
  | some l, e, w' => e = .returned (.int .i64 (-1)) ∧ St w [bl] [pt bl [.int .i64 (l : Int)] 3] w'
  | none, e, w' => ∃ x : Nat × List Value, e = .returned (.int .i64 (x.1 : Int)) ∧ St w [bl] [pt bl x.2 3] w'
def VC (lv : Nat) : Prop := ∀ t F a c left bl w, rdT w t F (tv t a c) → bl ∉ F → left ≤ 1000 → w.heap[bl]? = some (.cells [Value.int .i64 ((left : Nat) : Int)].toArray 3 (0, 0)) →
  Calls Try.prog 90 [tv t a c, .int .i64 (lv : Int), pp bl].toArray w (VPost bl w (Fm.validT lv t left))
/-- What the kids' check stands on. -/
structure VFr (w : World) (lv bl b4 b5 : Nat) (t : Tree) (G : List Nat) (a : Option Addr) (c left : Nat) : Prop where
  rd : rdT w t G (tv t a c)
  nf : bl ∉ G
  le : left ≤ 1000
  hl : w.heap[bl]? = some (.cells [Value.int .i64 (left : Int)].toArray 3 (0, 0))
  h4 : w.heap[b4]? = some (.cells [Value.int .i64 ((lv + 1 : Nat) : Int)].toArray 3 (0, 0))
  h5 : w.heap[b5]? = some (.cells [pp bl].toArray 146 (0, 0))
  n4 : b4 ≠ bl
  n5 : b5 ≠ bl
theorem rdT_out {w : World} {t : Tree} {F : List Nat} {v : Value} {bl : Nat} (h : rdT w t F v) (hn : bl ∉ F) : ∀ k ∈ F, k < w.heap.size ∧ k ∉ [bl] :=
  fun k hk => ⟨rdT_lt h k hk, by simp only [List.mem_singleton]; intro e; subst e; exact hn hk⟩
theorem cell_of_heap {w : World} {b : Nat} {cs : List Value} {e : TypeId} {j : Nat} {v : Value} (h : w.heap[b]? = some (.cells cs.toArray e (0, 0))) (hv : cs[j]? = some v) : w.cell? ⟨b, j, none⟩ = some v := by
  simp [World.cell?, h, hv]

theorem valid1_c (lv : Nat) (hlv : lv ≤ 1000) (hV : VC lv) (t : Tree) (G : List Nat) (a : Option Addr) (c left bl b4 b5 : Nat) (w : World) (hw : VFr w lv bl b4 b5 t G a c left) :
    Calls Try.prog 99 [tv t a c, pp b4, pp b5].toArray w (NPost bl w (Fm.validT lv t left)) := by
  have hN := fun w hr hp => hV t G a c left bl w hr hw.nf hw.le hp
  refine enter Try.func99 rfl Try.ntmps99 rfl (St.init1 hw.hl) ?_
  refine WC.seq ?_
  refine WC.region ?_
  refine WL.step ?_
  refine WL.boxN rfl rfl (fun b3 => ?_)
  refine WL.step ?_
  refine WL.assign rfl rfl ?_
  refine WL.nil ?_
  refine WQ.then_normal ?_
  refine WC.seq ?_
  rcases hv : Fm.validT lv t left with _ | l
  · skip
    rw [hv] at hN
    refine WC.region ?_
    refine WL.step ?_
    refine WL.loadW F.agg74 rfl rfl (by repeat (first | exact List.Mem.head _ | apply List.Mem.tail)) rfl ?_
    refine WL.step ?_
    refine WL.load1 F.one3 rfl rfl (fun w hS => hS.oldc (cell_of_heap hw.h4 rfl) (by simp [hw.n4])) ?_
    refine WL.step ?_
    refine WL.sub rfl rfl rfl ⟨by omega, by omega⟩ ?_
    refine WA.say 7 (.int .i64 (lv : Int)) (congrArg (fun z => some (Value.int .i64 z)) (show ((lv + 1 : Nat) : Int) - 1 = (lv : Int) by omega)) ?_
    refine WL.step ?_
    refine WL.load1 F.one146 rfl rfl (fun w hS => hS.oldc (cell_of_heap hw.h5 rfl) (by simp [hw.n5])) ?_
    refine WL.step ?_
    refine WL.call1B (β := List Value) (v := .bool false) (c1 := fun cs => pt bl cs 3) F.fun90 rfl rfl (by repeat (first | exact Rem.here | apply Rem.there)) (fun w hS => hN w (hS.oldT hw.rd (rdT_out hw.rd hw.nf)) (hS.heap (by repeat (first | exact List.Mem.head _ | apply List.Mem.tail)))) (fun cs9 => ?_)
    refine WL.step ?_
    refine WL.not rfl rfl ?_
    refine WL.step ?_
    refine WL.assign rfl rfl ?_
    refine WL.nil ?_
    refine WQ.then_normal ?_
    refine WC.ret ?_
    refine WQ.ret (rs := [.tmp 4]) rfl (.tmp rfl .nil) (fun w hS => ?_)
    exact ⟨cs9, rfl, (St.pick hS (c := pt bl cs9 3) (by repeat (first | exact Rem.here | apply Rem.there))).one1⟩
  · skip
    rw [hv] at hN
    refine WC.region ?_
    refine WL.step ?_
    refine WL.loadW F.agg74 rfl rfl (by repeat (first | exact List.Mem.head _ | apply List.Mem.tail)) rfl ?_
    refine WL.step ?_
    refine WL.load1 F.one3 rfl rfl (fun w hS => hS.oldc (cell_of_heap hw.h4 rfl) (by simp [hw.n4])) ?_
    refine WL.step ?_
    refine WL.sub rfl rfl rfl ⟨by omega, by omega⟩ ?_
    refine WA.say 7 (.int .i64 (lv : Int)) (congrArg (fun z => some (Value.int .i64 z)) (show ((lv + 1 : Nat) : Int) - 1 = (lv : Int) by omega)) ?_
    refine WL.step ?_
    refine WL.load1 F.one146 rfl rfl (fun w hS => hS.oldc (cell_of_heap hw.h5 rfl) (by simp [hw.n5])) ?_
    refine WL.step ?_
    refine WL.call1S (v := .bool true) (bs' := [.int .i64 (l : Int)]) F.fun90 rfl rfl (by repeat (first | exact Rem.here | apply Rem.there)) (fun w hS => hN w (hS.oldT hw.rd (rdT_out hw.rd hw.nf)) (hS.heap (by repeat (first | exact List.Mem.head _ | apply List.Mem.tail)))) ?_
    refine WL.step ?_
    refine WL.not rfl rfl ?_
    refine WL.step ?_
    refine WL.assign rfl rfl ?_
    refine WL.nil ?_
    refine WQ.then_normal ?_
    refine WC.ret ?_
    refine WQ.ret (rs := [.tmp 4]) rfl (.tmp rfl .nil) (fun w hS => ?_)
    exact ⟨rfl, (St.pick hS (c := pt bl [.int .i64 (l : Int)] 3) (by repeat (first | exact Rem.here | apply Rem.there))).one1⟩

theorem indexV_c (lv : Nat) (hlv : lv ≤ 1000) (hV : VC lv) (t : Tree) (G : List Nat) (a : Option Addr) (c left bl b4 b5 : Nat) (w : World) (hw : VFr w lv bl b4 b5 t G a c left) :
    Calls Try.prog 103 [.slice a t.kids.length c, .func (.func 99) [].toArray [pp b4, pp b5].toArray].toArray w (IPost bl w (Fm.validL lv t.kids left)) := by
  refine enter Try.func103 rfl Try.ntmps103 rfl (St.init1 hw.hl) ?_
  refine WC.seq ?_
  refine WC.region ?_
  refine WL.step ?_
  refine WL.assign rfl rfl ?_
  refine WL.nil ?_
  refine WQ.then_normal ?_
  refine WC.seq ?_
  refine WC.seq ?_
  refine WC.region ?_
  refine WL.step ?_
  refine WL.move rfl rfl ?_
  refine WL.step ?_
  refine WL.lenSl F.und72 rfl rfl ?_
  refine WL.step ?_
  refine WL.move rfl rfl ?_
  refine WL.nil ?_
  refine WQ.then_normal ?_
  refine WC.block ?_
  refine WC.loop (α := Nat × Nat) (fun g => g.1 ≤ t.kids.length ∧ g.1 + g.2 ≤ 1000 ∧ Fm.validL lv t.kids left = Fm.validL lv (t.kids.drop g.1) g.2) (fun g => [(0, .slice a t.kids.length c), (1, .func (.func 99) [].toArray [pp b4, pp b5].toArray), (7, .int .i64 (t.kids.length : Int)), (8, .int .i64 (g.1 : Int))]) (fun g => [pt bl [.int .i64 (g.2 : Int)] 3]) (fun g => t.kids.length - g.1) ((0, left)) ?_ ?_ ?_ ?_
  · exact ⟨Nat.zero_le _, by have := hw.le; show 0 + left ≤ 1000; omega, rfl⟩
  · exact ⟨rfl, rfl, rfl, rfl, trivial⟩
  · rfl
  rintro ⟨i, lf⟩ ⟨hi, hil, hval⟩
  dsimp only at hi hil hval
  have hlf : lf ≤ 1000 := by omega
  show WC _ _ _ _ _ _ _ [(0, .slice a t.kids.length c), (1, .func (.func 99) [].toArray [pp b4, pp b5].toArray), (7, .int .i64 (t.kids.length : Int)), (8, .int .i64 (i : Int))] [pt bl [.int .i64 (lf : Int)] 3]
  refine WC.seq ?_
  refine WC.region ?_
  refine WL.step ?_
  refine WL.ltI rfl rfl rfl ?_
  refine WL.nil ?_
  refine WQ.then_normal ?_
  refine WC.seq ?_
  refine WC.cond rfl (fun h9 => ?_) (fun h9 => ?_)
  · skip
    have hlt : i < t.kids.length := by simpa using h9
    obtain ⟨k, hk⟩ : ∃ k, t.kids[i]? = some k := ⟨_, List.getElem?_eq_getElem hlt⟩
    have hst := Fm.validL_drop (lv := lv) (left := lf) hk
    obtain ⟨b, off, F1, a1, c1, ha, hbF, hF1, hk1, hcells⟩ := rdT_at hw.rd hk
    subst ha
    refine WC.skip ?_
    refine WQ.then_normal ?_
    refine WC.seq ?_
    refine WC.block ?_
    refine WC.seq ?_
    refine WC.region ?_
    refine WL.step ?_
    refine WL.move rfl rfl ?_
    refine WL.step ?_
    refine WL.assign rfl rfl ?_
    refine WL.nil ?_
    refine WQ.then_normal ?_
    refine WC.seq ?_
    rcases hv : Fm.validT lv k lf with _ | l
    · skip
      rw [hv] at hst
      have hval2 : Fm.validL lv t.kids left = none := hval.trans hst
      have hN := fun w (hw : VFr w lv bl b4 b5 k F1 a1 c1 lf) => valid1_c lv hlv hV k F1 a1 c1 lf bl b4 b5 w hw
      rw [hv] at hN
      refine WC.region ?_
      refine WL.step ?_
      refine WL.move rfl rfl ?_
      refine WL.step ?_
      refine WL.move rfl rfl ?_
      refine WL.step ?_
      refine WL.move rfl rfl ?_
      refine WL.step ?_
      refine WL.indexAddr F.sl72 rfl rfl rfl hlt ?_
      refine WL.step ?_
      refine WL.loadN F.agg74 rfl rfl (vs := [.int .u8 k.op, .string (str k.name), .slice a1 k.kids.length c1]) rfl (fun w hS j v hj => hS.oldc (hcells j v hj) (by simp only [List.mem_singleton]; intro e; exact hw.nf (e ▸ hbF))) ?_
      refine WL.step ?_
      refine WL.callFA (β := List Value) (v := .bool true) (c1 := fun cs => pt bl (cs) 3) F.fun99 rfl rfl rfl (by repeat (first | exact Rem.here | apply Rem.there)) (fun w hS => hN w ⟨hS.oldT hk1 (rdT_out hw.rd hw.nf |> fun h x hx => h x (hF1 x hx)), fun hb => hw.nf (hF1 _ hb), hlf, hS.heap (by repeat (first | exact List.Mem.head _ | apply List.Mem.tail)), hS.oldh hw.h4 (by simp [hw.n4]), hS.oldh hw.h5 (by simp [hw.n5]), hw.n4, hw.n5⟩) (fun cs16 => ?_)
      refine WL.nil ?_
      refine WQ.then_normal ?_
      refine WC.condT rfl ?_
      refine WC.seq ?_
      refine WC.region ?_
      refine WL.step ?_
      refine WL.move rfl rfl ?_
      refine WL.step ?_
      refine WL.assign rfl rfl ?_
      refine WL.nil ?_
      refine WQ.then_normal ?_
      refine WC.ret ?_
      refine WQ.block_ret ?_
      refine WQ.then_ret ?_
      refine WQ.then_ret ?_
      refine WQ.block_ret ?_
      refine WQ.then_ret ?_
      refine WQ.ret (rs := [.tmp 4]) rfl (.tmp rfl .nil) (fun w hS => ?_)
      rw [hval2]
      exact ⟨(i, cs16), rfl, hS⟩
    · skip
      rw [hv] at hst
      have hval2 : Fm.validL lv t.kids left = Fm.validL lv (t.kids.drop (i + 1)) l := hval.trans hst
      have hN := fun w (hw : VFr w lv bl b4 b5 k F1 a1 c1 lf) => valid1_c lv hlv hV k F1 a1 c1 lf bl b4 b5 w hw
      rw [hv] at hN
      refine WC.region ?_
      refine WL.step ?_
      refine WL.move rfl rfl ?_
      refine WL.step ?_
      refine WL.move rfl rfl ?_
      refine WL.step ?_
      refine WL.move rfl rfl ?_
      refine WL.step ?_
      refine WL.indexAddr F.sl72 rfl rfl rfl hlt ?_
      refine WL.step ?_
      refine WL.loadN F.agg74 rfl rfl (vs := [.int .u8 k.op, .string (str k.name), .slice a1 k.kids.length c1]) rfl (fun w hS j v hj => hS.oldc (hcells j v hj) (by simp only [List.mem_singleton]; intro e; exact hw.nf (e ▸ hbF))) ?_
      refine WL.step ?_
      refine WL.callFA (β := Unit) (v := .bool false) (c1 := fun cs => pt bl ([.int .i64 (l : Int)]) 3) F.fun99 rfl rfl rfl (by repeat (first | exact Rem.here | apply Rem.there)) (fun w hS => (hN w ⟨hS.oldT hk1 (rdT_out hw.rd hw.nf |> fun h x hx => h x (hF1 x hx)), fun hb => hw.nf (hF1 _ hb), hlf, hS.heap (by repeat (first | exact List.Mem.head _ | apply List.Mem.tail)), hS.oldh hw.h4 (by simp [hw.n4]), hS.oldh hw.h5 (by simp [hw.n5]), hw.n4, hw.n5⟩).mono (fun e w' h => ⟨(), h⟩)) (fun _ => ?_)
      refine WL.nil ?_
      refine WQ.then_normal ?_
      refine WC.condF rfl ?_
      refine WC.skip ?_
      refine WQ.block_normal ?_
      refine WQ.then_normal ?_
      refine WC.region ?_
      refine WL.step ?_
      refine WL.add rfl rfl rfl ⟨by omega, by omega⟩ ?_
      refine WL.step ?_
      refine WL.move rfl rfl ?_
      refine WL.nil ?_
      refine WQ.back ((i + 1, l)) ?_ ?_ ?_ ?_
      · exact ⟨by show i + 1 ≤ t.kids.length; omega, by have := Fm.validT_le hv; show i + 1 + l ≤ 1000; omega, hval2⟩
      · (show t.kids.length - (i + 1) < t.kids.length - i; omega)
      · exact ⟨rfl, rfl, rfl, rfl, trivial⟩
      · rfl
  · skip
    have hie : i = t.kids.length := by simp at h9; omega
    subst hie
    rw [List.drop_length] at hval
    have hval3 : Fm.validL lv t.kids left = some lf := hval
    refine WC.exit ?_
    refine WQ.then_exit ?_
    refine WQ.then_exit ?_
    refine WQ.block_exit ?_
    refine WQ.then_normal ?_
    refine WC.seq ?_
    refine WC.region ?_
    refine WL.step ?_
    refine WL.assign rfl rfl ?_
    refine WL.nil ?_
    refine WQ.then_normal ?_
    refine WC.ret ?_
    refine WQ.ret (rs := [.tmp 4]) rfl (.tmp rfl .nil) (fun w hS => ?_)
    rw [hval3]
    exact ⟨rfl, hS⟩

theorem containsV_c (lv : Nat) (hlv : lv ≤ 1000) (hV : VC lv) (t : Tree) (G : List Nat) (a : Option Addr) (c left bl b4 b5 : Nat) (w : World) (hw : VFr w lv bl b4 b5 t G a c left) :
    Calls Try.prog 98 [.slice a t.kids.length c, .func (.func 99) [].toArray [pp b4, pp b5].toArray].toArray w (NPost bl w (Fm.validL lv t.kids left)) := by
  have hN := fun w (hw : VFr w lv bl b4 b5 t G a c left) => indexV_c lv hlv hV t G a c left bl b4 b5 w hw
  refine enter Try.func98 rfl Try.ntmps98 rfl (St.init1 hw.hl) ?_
  refine WC.seq ?_
  refine WC.region ?_
  refine WL.step ?_
  refine WL.assign rfl rfl ?_
  refine WL.nil ?_
  refine WQ.then_normal ?_
  refine WC.seq ?_
  rcases hv : Fm.validL lv t.kids left with _ | l
  · skip
    rw [hv] at hN
    refine WC.region ?_
    refine WL.step ?_
    refine WL.move rfl rfl ?_
    refine WL.step ?_
    refine WL.move rfl rfl ?_
    refine WL.step ?_
    refine WL.call1C (β := Nat × List Value) (res := fun x => .int .i64 (x.1 : Int)) (c1 := fun x => pt bl x.2 3) F.fun103 rfl rfl (by repeat (first | exact Rem.here | apply Rem.there)) (fun w hS => hN w ⟨hS.oldT hw.rd (rdT_out hw.rd hw.nf), hw.nf, hw.le, hS.heap (by repeat (first | exact List.Mem.head _ | apply List.Mem.tail)), hS.oldh hw.h4 (by simp [hw.n4]), hS.oldh hw.h5 (by simp [hw.n5]), hw.n4, hw.n5⟩) (fun x => ?_)
    refine WL.step ?_
    refine WL.geI rfl rfl rfl ?_
    refine WL.step ?_
    refine WL.assign rfl rfl ?_
    refine WL.nil ?_
    refine WQ.then_normal ?_
    refine WC.ret ?_
    refine WQ.ret (rs := [.tmp 4]) rfl (.tmp rfl .nil) (fun w hS => ?_)
    exact ⟨x.2, by simp [tup], hS⟩
  · skip
    rw [hv] at hN
    refine WC.region ?_
    refine WL.step ?_
    refine WL.move rfl rfl ?_
    refine WL.step ?_
    refine WL.move rfl rfl ?_
    refine WL.step ?_
    refine WL.call1S (v := .int .i64 (-1)) (bs' := [.int .i64 (l : Int)]) F.fun103 rfl rfl (by repeat (first | exact Rem.here | apply Rem.there)) (fun w hS => hN w ⟨hS.oldT hw.rd (rdT_out hw.rd hw.nf), hw.nf, hw.le, hS.heap (by repeat (first | exact List.Mem.head _ | apply List.Mem.tail)), hS.oldh hw.h4 (by simp [hw.n4]), hS.oldh hw.h5 (by simp [hw.n5]), hw.n4, hw.n5⟩) ?_
    refine WL.step ?_
    refine WL.geI rfl rfl rfl ?_
    refine WL.step ?_
    refine WL.assign rfl rfl ?_
    refine WL.nil ?_
    refine WQ.then_normal ?_
    refine WC.ret ?_
    refine WQ.ret (rs := [.tmp 4]) rfl (.tmp rfl .nil) (fun w hS => ?_)
    exact ⟨rfl, hS⟩

theorem validT_none {lv left : Nat} {t : Tree} (h : (decide (lv = 0) || decide (left = 0) || !Fm.rightB t) = true) : Fm.validT lv t left = none := by
  obtain ⟨op, name, kids⟩ := t
  simp only [Bool.or_eq_true, decide_eq_true_eq, Bool.not_eq_true'] at h
  simp only [Fm.validT]
  rw [if_pos]
  rcases h with (h | h) | h
  · exact .inl h
  · exact .inr (.inl h)
  · exact .inr (.inr h)
theorem validT_some {lv left : Nat} {t : Tree} (h : (decide (lv = 0) || decide (left = 0) || !Fm.rightB t) = false) : ∃ lv' left', lv = lv' + 1 ∧ left = left' + 1 ∧ Fm.validT lv t left = Fm.validL lv' t.kids left' := by
  obtain ⟨op, name, kids⟩ := t
  simp only [Bool.or_eq_false_iff, decide_eq_false_iff_not, Bool.not_eq_false'] at h
  refine ⟨lv - 1, left - 1, by omega, by omega, ?_⟩
  simp only [Fm.validT]
  rw [if_neg]
  · rfl
  · rintro (h' | h' | h')
    · exact h.1.1 h'
    · exact h.1.2 h'
    · rw [h.2] at h'; cases h'

theorem valid_step (lv : Nat) (hlv : lv ≤ 1000) (hV : ∀ lv', lv = lv' + 1 → VC lv') : VC lv := by
  intro t G a c left bl w hr hbl hle hp
  refine enter Try.func90 rfl Try.ntmps90 rfl (St.init1 hp) ?_
  refine WC.seq ?_
  refine WC.region ?_
  refine WL.step ?_
  refine WL.boxN rfl rfl (fun b3 => ?_)
  refine WL.step ?_
  refine WL.box1 rfl rfl rfl (fun b4 => ?_)
  refine WL.step ?_
  refine WL.box1 rfl rfl rfl (fun b5 => ?_)
  refine WL.step ?_
  refine WL.assign rfl rfl ?_
  refine WL.nil ?_
  refine WQ.then_normal ?_
  refine WC.seq ?_
  refine WC.region ?_
  refine WL.step ?_
  refine WL.loadP F.one146 rfl rfl (by repeat (first | exact List.Mem.head _ | apply List.Mem.tail)) rfl ?_
  refine WL.step ?_
  refine WL.nilCheck rfl rfl ?_
  refine WL.step ?_
  refine WL.loadP F.one3 rfl rfl (by repeat (first | exact List.Mem.head _ | apply List.Mem.tail)) rfl ?_
  refine WL.step ?_
  refine WL.sub rfl rfl rfl ⟨by omega, by omega⟩ ?_
  refine WL.step ?_
  refine WL.nilCheck rfl rfl ?_
  refine WL.step ?_
  refine WL.store1 F.one3 rfl rfl rfl (by repeat (first | exact Upd.here | apply Upd.there)) (by repeat constructor) ?_
  refine WL.nil ?_
  refine WQ.then_normal ?_
  refine WC.seq ?_
  refine WC.seq ?_
  refine WC.cutF [(24, .bool (decide (lv = 0) || decide (left = 0) || !Fm.rightB t)), (3, pp b3), (4, pp b4), (5, pp b5)] (fun Q' hQ => ?_) ?_
  · skip
    refine WC.region ?_
    refine WL.step ?_
    refine WL.loadP F.one3 rfl rfl (by repeat (first | exact List.Mem.head _ | apply List.Mem.tail)) rfl ?_
    refine WL.step ?_
    refine WL.eqI rfl rfl rfl ?_
    refine WL.step ?_
    refine WL.move rfl rfl ?_
    refine WA.splitB (i := 14) rfl (fun h14 => ?_) (fun h14 => ?_)
    · skip
      refine WL.step (WL.guardF rfl rfl rfl rfl rfl rfl ?_)
      refine WL.step (WL.guardF rfl rfl rfl rfl rfl rfl ?_)
      refine WL.step (WL.guardF rfl rfl rfl rfl rfl rfl ?_)
      refine WL.step (WL.guardF rfl rfl rfl rfl rfl rfl ?_)
      refine WL.step ?_
      refine WL.pickT rfl rfl rfl ?_
      refine WL.step ?_
      refine WL.move rfl rfl ?_
      refine WL.step (WL.guardF rfl rfl rfl rfl rfl rfl ?_)
      refine WL.step (WL.guardF rfl rfl rfl rfl rfl rfl ?_)
      refine WL.step (WL.guardF rfl rfl rfl rfl rfl rfl ?_)
      refine WL.step ?_
      refine WL.pickT rfl rfl rfl ?_
      refine WL.nil ?_
      refine WQ.byCut hQ (subF_bool ?_ ⟨rfl, rfl, rfl, trivial⟩ rfl)
      have e13 : ((lv : Int) == 0) = decide (lv = 0) := by rw [Bool.eq_iff_iff]; simp
      have e18 : decide ((left : Int) - 1 < 0) = decide (left = 0) := by rw [Bool.eq_iff_iff]; simp; omega
      simp_all
    · skip
      refine WL.step (WL.guardT rfl rfl rfl ?_)
      refine WL.loadP F.one146 rfl rfl (by repeat (first | exact List.Mem.head _ | apply List.Mem.tail)) rfl ?_
      refine WL.step (WL.guardT rfl rfl rfl ?_)
      refine WL.nilCheck rfl rfl ?_
      refine WL.step (WL.guardT rfl rfl rfl ?_)
      refine WL.loadP F.one3 rfl rfl (by repeat (first | exact List.Mem.head _ | apply List.Mem.tail)) rfl ?_
      refine WL.step (WL.guardT rfl rfl rfl ?_)
      refine WL.ltI rfl rfl rfl ?_
      refine WL.step ?_
      refine WL.pickF rfl rfl rfl ?_
      refine WL.step ?_
      refine WL.move rfl rfl ?_
      refine WA.splitB (i := 20) rfl (fun h20 => ?_) (fun h20 => ?_)
      · skip
        refine WL.step (WL.guardF rfl rfl rfl rfl rfl rfl ?_)
        refine WL.step (WL.guardF rfl rfl rfl rfl rfl rfl ?_)
        refine WL.step (WL.guardF rfl rfl rfl rfl rfl rfl ?_)
        refine WL.step ?_
        refine WL.pickT rfl rfl rfl ?_
        refine WL.nil ?_
        refine WQ.byCut hQ (subF_bool ?_ ⟨rfl, rfl, rfl, trivial⟩ rfl)
        have e13 : ((lv : Int) == 0) = decide (lv = 0) := by rw [Bool.eq_iff_iff]; simp
        have e18 : decide ((left : Int) - 1 < 0) = decide (left = 0) := by rw [Bool.eq_iff_iff]; simp; omega
        simp_all
      · skip
        refine WL.step (WL.guardT rfl rfl rfl ?_)
        refine WL.loadW F.agg74 rfl rfl (by repeat (first | exact List.Mem.head _ | apply List.Mem.tail)) rfl ?_
        refine WL.step (WL.guardT rfl rfl rfl ?_)
        refine WL.callV F.fun97 rfl rfl (fun w _ => right_c t a c w) ?_
        refine WL.step (WL.guardT rfl rfl rfl ?_)
        refine WL.not rfl rfl ?_
        refine WL.step ?_
        refine WL.pickF rfl rfl rfl ?_
        refine WL.nil ?_
        refine WQ.byCut hQ (subF_bool ?_ ⟨rfl, rfl, rfl, trivial⟩ rfl)
        have e13 : ((lv : Int) == 0) = decide (lv = 0) := by rw [Bool.eq_iff_iff]; simp
        have e18 : decide ((left : Int) - 1 < 0) = decide (left = 0) := by rw [Bool.eq_iff_iff]; simp; omega
        simp_all
  refine WQ.then_normal ?_
  refine WC.cond rfl (fun h24 => ?_) (fun h24 => ?_)
  · skip
    have hval := validT_none h24
    refine WC.seq ?_
    refine WC.region ?_
    refine WL.step ?_
    refine WL.assign rfl rfl ?_
    refine WL.nil ?_
    refine WQ.then_normal ?_
    refine WC.ret ?_
    refine WQ.then_ret ?_
    refine WQ.ret (rs := [.tmp 6]) rfl (.tmp rfl .nil) (fun w hS => ?_)
    rw [hval]
    exact ⟨_, rfl, (St.pick hS (c := pt bl [.int .i64 ((left : Int) - 1)] 3) (by repeat (first | exact Rem.here | apply Rem.there))).one1⟩
  · skip
    obtain ⟨lv, left, rfl, rfl, hval⟩ := validT_some h24
    have e : (((left + 1 : Nat) : Int) - 1) = (left : Int) := by omega
    rw [e]
    have hC := fun w (hw : VFr w lv bl b4 b5 t G a c left) => containsV_c lv (by omega) (hV lv rfl) t G a c left bl b4 b5 w hw
    refine WC.skip ?_
    refine WQ.then_normal ?_
    refine WC.seq ?_
    rcases hvl : Fm.validL lv t.kids left with _ | l
    · skip
      rw [hvl] at hC hval
      refine WC.region ?_
      refine WL.step ?_
      refine WL.fieldAddr0 F.fld74_2 rfl rfl ?_
      refine WL.step ?_
      refine WL.loadP F.one72 rfl rfl (by repeat (first | exact List.Mem.head _ | apply List.Mem.tail)) rfl ?_
      refine WL.step ?_
      refine WL.makeFunc rfl rfl rfl ?_
      refine WL.step ?_
      refine WL.call1B (β := List Value) (v := .bool true) (c1 := fun cs => pt bl cs 3) F.fun98 rfl rfl (by repeat (first | exact Rem.here | apply Rem.there)) (fun w hS => hC w ⟨hS.oldT hr (rdT_out hr hbl), hbl, by omega, hS.heap (by repeat (first | exact List.Mem.head _ | apply List.Mem.tail)), hS.heap (by repeat (first | exact List.Mem.head _ | apply List.Mem.tail)), hS.heap (by repeat (first | exact List.Mem.head _ | apply List.Mem.tail)), St.ne2 (St.pick (St.pick hS (c := pt bl [.int .i64 (left : Int)] 3) (by repeat (first | exact Rem.here | apply Rem.there))) (c := pt b4 [.int .i64 ((lv + 1 : Nat) : Int)] 3) (by repeat (first | exact Rem.here | apply Rem.there))), St.ne2 (St.pick (St.pick hS (c := pt bl [.int .i64 (left : Int)] 3) (by repeat (first | exact Rem.here | apply Rem.there))) (c := pt b5 [pp bl] 146) (by repeat (first | exact Rem.here | apply Rem.there)))⟩) (fun cs28 => ?_)
      refine WL.step ?_
      refine WL.not rfl rfl ?_
      refine WL.step ?_
      refine WL.assign rfl rfl ?_
      refine WL.nil ?_
      refine WQ.then_normal ?_
      refine WC.ret ?_
      refine WQ.ret (rs := [.tmp 6]) rfl (.tmp rfl .nil) (fun w hS => ?_)
      rw [hval]
      exact ⟨cs28, rfl, (St.pick hS (c := pt bl cs28 3) (by repeat (first | exact Rem.here | apply Rem.there))).one1⟩
    · skip
      rw [hvl] at hC hval
      refine WC.region ?_
      refine WL.step ?_
      refine WL.fieldAddr0 F.fld74_2 rfl rfl ?_
      refine WL.step ?_
      refine WL.loadP F.one72 rfl rfl (by repeat (first | exact List.Mem.head _ | apply List.Mem.tail)) rfl ?_
      refine WL.step ?_
      refine WL.makeFunc rfl rfl rfl ?_
      refine WL.step ?_
      refine WL.call1S (v := .bool false) (bs' := [.int .i64 (l : Int)]) F.fun98 rfl rfl (by repeat (first | exact Rem.here | apply Rem.there)) (fun w hS => hC w ⟨hS.oldT hr (rdT_out hr hbl), hbl, by omega, hS.heap (by repeat (first | exact List.Mem.head _ | apply List.Mem.tail)), hS.heap (by repeat (first | exact List.Mem.head _ | apply List.Mem.tail)), hS.heap (by repeat (first | exact List.Mem.head _ | apply List.Mem.tail)), St.ne2 (St.pick (St.pick hS (c := pt bl [.int .i64 (left : Int)] 3) (by repeat (first | exact Rem.here | apply Rem.there))) (c := pt b4 [.int .i64 ((lv + 1 : Nat) : Int)] 3) (by repeat (first | exact Rem.here | apply Rem.there))), St.ne2 (St.pick (St.pick hS (c := pt bl [.int .i64 (left : Int)] 3) (by repeat (first | exact Rem.here | apply Rem.there))) (c := pt b5 [pp bl] 146) (by repeat (first | exact Rem.here | apply Rem.there)))⟩) ?_
      refine WL.step ?_
      refine WL.not rfl rfl ?_
      refine WL.step ?_
      refine WL.assign rfl rfl ?_
      refine WL.nil ?_
      refine WQ.then_normal ?_
      refine WC.ret ?_
      refine WQ.ret (rs := [.tmp 6]) rfl (.tmp rfl .nil) (fun w hS => ?_)
      rw [hval]
      exact ⟨rfl, (St.pick hS (c := pt bl [.int .i64 (l : Int)] 3) (by repeat (first | exact Rem.here | apply Rem.there))).one1⟩

theorem valid_c : ∀ lv : Nat, lv ≤ 1000 → VC lv
  | 0, h => valid_step 0 h (fun _ e => by omega)
  | lv + 1, h => valid_step (lv + 1) h (fun lv' e => by
    have : lv' = lv := by omega
    subst this
    exact valid_c lv' (by omega))

theorem Valid_c (t : Tree) (G : List Nat) (a : Option Addr) (c : Nat) (w : World) (hr : rdT w t G (tv t a c)) : Pure Try.prog 61 [tv t a c] w (.bool (Fm.validB t)) := by
  refine enter Try.func61 rfl Try.ntmps61 rfl (St.init _) ?_
  refine WC.seq ?_
  refine WC.region ?_
  refine WL.step ?_
  refine WL.boxN rfl rfl (fun b1 => ?_)
  refine WL.step ?_
  refine WL.assign rfl rfl ?_
  refine WL.nil ?_
  refine WQ.then_normal ?_
  refine WC.seq ?_
  refine WC.region ?_
  refine WL.step ?_
  refine WL.alloc F.zero3 rfl (fun b3 => ?_)
  refine WL.step ?_
  refine WL.store1 F.one3 rfl rfl rfl (by repeat (first | exact Upd.here | apply Upd.there)) (by repeat constructor) ?_
  refine WL.nil ?_
  refine WQ.then_normal ?_
  refine WC.seq ?_
  rcases hv : Fm.validT 64 t 1000 with _ | l
  · skip
    have hN := fun w hr hbl hp => valid_c 64 (by omega) t G a c 1000 b3 w hr hbl (Nat.le_refl _) hp
    rw [hv] at hN
    refine WC.region ?_
    refine WL.step ?_
    refine WL.loadW F.agg74 rfl rfl (by repeat (first | exact List.Mem.head _ | apply List.Mem.tail)) rfl ?_
    refine WA.know (φ := ∀ k ∈ G, k ≠ b3) (fun w' hS k hk e => ?_) (fun hne => ?_)
    · have h1 := (hS.bnd (pt b3 [.int .i64 1000] 3) (by repeat (first | exact List.Mem.head _ | apply List.Mem.tail)) b3 rfl).2
      have h2 := rdT_lt hr k hk
      subst e
      cases h1 h2
    refine WL.step ?_
    refine WL.call1B (β := List Value) (v := .bool false) (c1 := fun cs => pt b3 cs 3) F.fun90 rfl rfl (by repeat (first | exact Rem.here | apply Rem.there)) (fun w hS => hN w (hS.oldT hr (fun k hk => ⟨rdT_lt hr k hk, by simp⟩)) (fun hb => hne _ hb rfl) (hS.heap (by repeat (first | exact List.Mem.head _ | apply List.Mem.tail)))) (fun cs5 => ?_)
    refine WL.step ?_
    refine WL.assign rfl rfl ?_
    refine WL.nil ?_
    refine WQ.then_normal ?_
    refine WC.ret ?_
    exact WQ.ret (rs := [.tmp 2]) rfl (.tmp rfl .nil) (fun w hS => ⟨by simp [tup, Fm.validB, hv], hS.drop.drop⟩)
  · skip
    have hN := fun w hr hbl hp => valid_c 64 (by omega) t G a c 1000 b3 w hr hbl (Nat.le_refl _) hp
    rw [hv] at hN
    refine WC.region ?_
    refine WL.step ?_
    refine WL.loadW F.agg74 rfl rfl (by repeat (first | exact List.Mem.head _ | apply List.Mem.tail)) rfl ?_
    refine WA.know (φ := ∀ k ∈ G, k ≠ b3) (fun w' hS k hk e => ?_) (fun hne => ?_)
    · have h1 := (hS.bnd (pt b3 [.int .i64 1000] 3) (by repeat (first | exact List.Mem.head _ | apply List.Mem.tail)) b3 rfl).2
      have h2 := rdT_lt hr k hk
      subst e
      cases h1 h2
    refine WL.step ?_
    refine WL.call1S (v := .bool true) (bs' := [.int .i64 (l : Int)]) F.fun90 rfl rfl (by repeat (first | exact Rem.here | apply Rem.there)) (fun w hS => hN w (hS.oldT hr (fun k hk => ⟨rdT_lt hr k hk, by simp⟩)) (fun hb => hne _ hb rfl) (hS.heap (by repeat (first | exact List.Mem.head _ | apply List.Mem.tail)))) ?_
    refine WL.step ?_
    refine WL.assign rfl rfl ?_
    refine WL.nil ?_
    refine WQ.then_normal ?_
    refine WC.ret ?_
    exact WQ.ret (rs := [.tmp 2]) rfl (.tmp rfl .nil) (fun w hS => ⟨by simp [tup, Fm.validB, hv], hS.drop.drop⟩)

end Go.Proofs.Ytkgllhkhdjodeaa

namespace Go.Proofs.Ytkgllhkhdjodeaa
open Go Go.Eng Go.Proofs
structure PCn (bp : Nat) (text : List UInt8) (n : Nat) : Prop where
  ch : PC bp text 60 [pp bp] .choice n
  sa : PC bp text 86 [pp bp] .same n
  im : PC bp text 96 [pp bp] .implies n
  ro : ∀ i : Nat, i ≤ 3 → PC bp text 101 [pp bp, .int .i64 (i : Int)] (.row i) n
  no : PC bp text 104 [pp bp] .not n
  le : PC bp text 105 [pp bp] .least n
theorem PC.zero {bp : Nat} {text : List UInt8} {f : Nat} {args : List Value} {nt : Fm.NT} : PC bp text f args nt 0 := fun a x r w _ h _ => by simp [Fm.parse] at h
theorem pc_all (bp : Nat) (text : List UInt8) (hmax : text.length ≤ 1099511627776) : ∀ n, PCn bp text n := by
  intro n
  induction n using Nat.strongRecOn with
  | _ n ih =>
    cases n with
    | zero => exact ⟨PC.zero, PC.zero, PC.zero, fun _ _ => PC.zero, PC.zero, PC.zero⟩
    | succ n =>
      have hm : text.length ≤ 140737488355328 := by omega
      have h := ih n (Nat.lt_succ_self n)
      exact ⟨choice_c bp text hm n h.sa h.ch, same_c bp text hm n h.im h.im, implies_c bp text hm n (h.ro 0 (by omega)) h.im,
        fun i hi => row_c bp text hmax n i hi h.no (fun hi3 m hm => (ih m (by omega)).ro (i + 1) (by omega)),
        not_c bp text hm n (fun m hm => (ih m (by omega)).le), least_c bp text hm n h.ch⟩

theorem catch_idle (b2 b3 b4 : Nat) (w : World) :
    CallsD Try.prog 58 [pp b2, pp b3, pp b4].toArray .returning w fun e u' w' => e = .returned (.tuple #[]) ∧ u' = .returning ∧ St w [] [] w' := by
  refine enterS Try.func58 rfl Try.ntmps58 rfl rfl rfl (St.init _) Recovers.returning (fun c₀ cs => ?_)
  refine WC.seq ?_
  refine WC.region ?_
  refine WL.step ?_
  refine WL.move rfl rfl ?_
  refine WL.step ?_
  refine WL.bin rfl rfl rfl (v := .bool false) (fun w => by kernel_rfl) ?_
  refine WL.nil ?_
  refine WQ.then_normal ?_
  refine WC.condF rfl ?_
  refine WC.skip ?_
  exact WQ.finS (rs := []) rfl .nil (fun w hS => ⟨rfl, rfl, hS⟩)

theorem _root_.Go.Eng.St.init3 {w : World} {b c d : Nat} {bs cs ds : List Value} {e1 e2 e3 : TypeId} (hb : w.heap[b]? = some (.cells bs.toArray e1 (0, 0))) (hc : w.heap[c]? = some (.cells cs.toArray e2 (0, 0)))
    (hd : w.heap[d]? = some (.cells ds.toArray e3 (0, 0))) (h1 : b ≠ c) (h2 : b ≠ d) (h3 : c ≠ d) : St w [b, c, d] [pt b bs e1, pt c cs e2, pt d ds e3] w := by
  refine ⟨rfl, rfl, rfl, Nat.le_refl _, fun _ _ _ => rfl, ?_, ?_, ?_⟩
  · intro x hx
    simp only [List.mem_cons, List.not_mem_nil, or_false] at hx
    rcases hx with rfl | rfl | rfl
    · exact hb
    · exact hc
    · exact hd
  · intro x hx k hk
    simp only [List.mem_cons, List.not_mem_nil, or_false] at hx
    rcases hx with rfl | rfl | rfl
    · have hk' : k = b := hk
      subst hk'
      exact ⟨lt_of_heap hb, fun _ => by simp⟩
    · have hk' : k = c := hk
      subst hk'
      exact ⟨lt_of_heap hc, fun _ => by simp⟩
    · have hk' : k = d := hk
      subst hk'
      exact ⟨lt_of_heap hd, fun _ => by simp⟩
  · refine .cons (fun x hx k hk hk2 => ?_) (.cons (fun x hx k hk hk2 => ?_) (.cons (fun x hx => by cases hx) .nil))
    · have hk' : k = b := hk
      simp only [List.mem_cons, List.not_mem_nil, or_false] at hx
      rcases hx with rfl | rfl
      · exact h1 (hk'.symm.trans hk2)
      · exact h2 (hk'.symm.trans hk2)
    · have hk' : k = c := hk
      simp only [List.mem_cons, List.not_mem_nil, or_false] at hx
      subst hx
      exact h3 (hk'.symm.trans hk2)

theorem catch_trouble (b2 b3 b4 : Nat) (at_ : Nat) (v2 v3 v4 : List Value) (h23 : b2 ≠ b3) (h24 : b2 ≠ b4) (h34 : b3 ≠ b4) (hv2 : v2.length = 3) (hv3 : v3.length = 1) (hv4 : v4.length = 1) (w : World)
    (h2 : w.heap[b2]? = some (.cells v2.toArray 74 (0, 0))) (h3 : w.heap[b3]? = some (.cells v3.toArray 3 (0, 0))) (h4 : w.heap[b4]? = some (.cells v4.toArray 29 (0, 0))) :
    CallsD Try.prog 58 [pp b2, pp b3, pp b4].toArray (.panicking (trouble at_)) w fun e u' w' => e = .returned (.tuple #[]) ∧ u' = .panicking [{ v := .iface 105 (.agg #[.int .i64 (at_ : Int)]), recovered := true }] ∧
      St w [b2, b3, b4] [pt b2 [.int .u8 0, .string (str []), .slice none 0 0] 74, pt b3 [.int .i64 (at_ : Int)] 3, pt b4 [.int .i64 4] 29] w' := by
  obtain ⟨x1, x2, x3, rfl⟩ : ∃ x1 x2 x3, v2 = [x1, x2, x3] := by match v2, hv2 with | [x1, x2, x3], _ => exact ⟨x1, x2, x3, rfl⟩
  obtain ⟨y, rfl⟩ : ∃ y, v3 = [y] := List.length_eq_one_iff.1 hv3
  obtain ⟨z, rfl⟩ : ∃ z, v4 = [z] := List.length_eq_one_iff.1 hv4
  refine enterS Try.func58 rfl Try.ntmps58 rfl rfl rfl (St.init3 h2 h3 h4 h23 h24 h34) (Recovers.panicking _ []) (fun c₀ cs => ?_)
  refine WC.seq ?_
  refine WC.region ?_
  refine WL.step ?_
  refine WL.move rfl rfl ?_
  refine WL.step ?_
  refine WL.bin rfl rfl rfl (v := .bool true) (fun w => by kernel_rfl) ?_
  refine WL.nil ?_
  refine WQ.then_normal ?_
  refine WC.condT rfl ?_
  refine WC.seq ?_
  refine WC.region ?_
  refine WL.step ?_
  refine WL.move rfl rfl ?_
  refine WL.step ?_
  refine WL.typeAssert rfl rfl (v := .tuple #[.agg #[.int .i64 (at_ : Int)], .bool true]) (fun w => by kernel_rfl) ?_
  refine WL.step ?_
  refine WL.move rfl rfl ?_
  refine WL.step ?_
  refine WL.extract rfl rfl rfl ?_
  refine WL.step ?_
  refine WL.extract rfl rfl rfl ?_
  refine WL.step ?_
  refine WL.alloc F.zero105 rfl (fun b4_1 => ?_)
  refine WL.step ?_
  refine WL.storeN F.agg105 rfl rfl rfl (by simp [Value.oneCell']) (by repeat (first | exact Upd.here | apply Upd.there)) (by repeat constructor) ?_
  refine WL.step ?_
  refine WL.assign rfl rfl ?_
  refine WL.nil ?_
  refine WQ.then_normal ?_
  refine WC.seq ?_
  refine WC.seq ?_
  refine WC.region ?_
  refine WL.step ?_
  refine WL.move rfl rfl ?_
  refine WL.step ?_
  refine WL.not rfl rfl ?_
  refine WL.nil ?_
  refine WQ.then_normal ?_
  refine WC.condF rfl ?_
  refine WC.skip ?_
  refine WQ.then_normal ?_
  refine WC.draws [([4, 5], fun w => w.cell? ⟨b4_1, 0, none⟩ = some (.int .i64 (at_ : Int)))] (by kernel_rfl) (fun w hS => facts_cons (hS.cell (by repeat (first | exact List.Mem.head _ | apply List.Mem.tail)) rfl) (facts_nil)) ?_
  refine WD.take (i := 0) rfl rfl rfl rfl (by kernel_rfl) (by kernel_rfl) (by kernel_rfl) (fun _ _ _ h => h) (by kernel_rfl) need_none (Yl.build F.stT74 rfl (by repeat (first | exact Built.nil | apply Built.one rfl rfl (by repeat constructor) | apply Built.agg rfl rfl (by repeat constructor)))) ?_
  refine WD.take (i := 1) rfl rfl rfl rfl (by kernel_rfl) (by kernel_rfl) (by kernel_rfl) (fun _ _ _ h => h) (by kernel_rfl) need_none (Yl.fieldAddr0 F.fld105_0 rfl) ?_
  refine WD.take (i := 2) rfl rfl rfl rfl (by kernel_rfl) (by kernel_rfl) (by kernel_rfl) (fun _ _ _ h => h) (by kernel_rfl) (need_at 0 6 rfl (by kernel_rfl)) (Yl.load1 F.one3 rfl) ?_
  refine WD.one (i := 3) (by kernel_rfl) rfl ?_
  refine WL.storeN F.agg74 rfl rfl rfl (by simp [Value.oneCell']) (by repeat (first | exact Upd.here | apply Upd.there)) (by repeat constructor) ?_
  refine WD.on (closed_of (by kernel_rfl)) (fun w hS => Sx.keep (hS.cell (by repeat (first | exact List.Mem.head _ | apply List.Mem.tail)) rfl) (Sx.none)) ?_
  refine WD.one (i := 4) (by kernel_rfl) rfl ?_
  refine WL.store1 F.one3 rfl rfl rfl (by repeat (first | exact Upd.here | apply Upd.there)) (by repeat constructor) ?_
  refine WD.on (closed_of (by kernel_rfl)) (fun w hS => Sx.gone rfl (Sx.none)) ?_
  refine WD.one (i := 5) (by kernel_rfl) rfl ?_
  refine WL.store1 F.one29 rfl rfl rfl (by repeat (first | exact Upd.here | apply Upd.there)) (by repeat constructor) ?_
  refine WD.on (closed_of (by kernel_rfl)) (fun w hS => Sx.gone rfl (Sx.none)) ?_
  refine WD.done (by kernel_rfl) ?_
  exact WQ.finS (rs := []) rfl .nil (fun w hS => ⟨rfl, rfl, hS.sublist (List.Sublist.cons _ (List.Sublist.refl _))⟩)

end Go.Proofs.Ytkgllhkhdjodeaa
