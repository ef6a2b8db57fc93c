import Derived.Test.YtkgllhkhdjodeaaGreatDoorPaKept1
import Derived.Scope
import Derived.ChangeStays
import Derived.ChangeOld
import Derived.Deep.Strs
import Derived.Deep.Matrix
set_option linter.unusedSimpArgs false
set_option linter.unusedVariables false
namespace Go.Proofs.YtkgllhkhdjodeaaGreatDoor
open Go Go.Eng Go.Proofs
theorem node_c (op : Int) (s : Option Addr) (n c : Nat) (w : World) : Pure Tryz.prog 55 [.int .u8 op, .slice s n c] w (.agg #[.int .u8 op, .string (str []), .slice s n c]) := by
 refine enter Tryz.func55 rfl Tryz.ntmps55 rfl (St.init _) ?_
 refine jN 3 ?_
 refine WL.alloc F.zero36 rfl (fun b4 => ?_)
 refine jN 15 ?_
 exact WQ.ret (rs := [.cell 4 36]) rfl (.cellN F.agg36 rfl jM rfl .nil) (fun w hS => ⟨rfl, hS.drop⟩)

theorem u8_le {a b : UInt8} : a ≤ b ↔ (a.toNat : Int) ≤ (b.toNat : Int) := by rw [UInt8.le_iff_toNat_le]; omega
theorem u8_eq {a b : UInt8} : a = b ↔ (a.toNat : Int) = (b.toNat : Int) := by rw [← UInt8.toNat_inj]; omega
theorem inWordB_int (c : UInt8) : Fm.inWordB c = ((c.toNat : Int) == 95 || (decide ((48 : Int) ≤ c.toNat) && decide ((c.toNat : Int) ≤ 57)) || (decide ((97 : Int) ≤ c.toNat) && decide ((c.toNat : Int) ≤ 122)) || (decide ((65 : Int) ≤ c.toNat) && decide ((c.toNat : Int) ≤ 90))) := by
 unfold Fm.inWordB
 rw [Bool.eq_iff_iff]
 simp [u8_le, u8_eq]

theorem inWord_c (c : UInt8) (w : World) : Pure Tryz.prog 50 [.int .u8 c.toNat] w (.bool (Fm.inWordB c)) := by
 refine enter Tryz.func50 rfl Tryz.ntmps50 rfl (St.init _) ?_
 refine jN 14 ?_
 refine WA.splitB (i := 5) rfl (fun g5 => ?_) (fun g5 => ?_)
 ·refine jN 51 ?_
  exact WQ.ret (rs := [.tmp 2]) rfl (.tmp rfl .nil) (fun w hS => ⟨by simp [tup, inWordB_int, *], hS⟩)
 ·refine jN 9 ?_
  refine WA.splitB (i := 8) rfl (fun g8 => ?_) (fun g8 => ?_)
  ·refine jN 13 ?_
   refine WA.splitB (i := 13) rfl (fun g13 => ?_) (fun g13 => ?_)
   ·refine jN 35 ?_
    exact WQ.ret (rs := [.tmp 2]) rfl (.tmp rfl .nil) (fun w hS => ⟨by simp [tup, inWordB_int, *], hS⟩)
   ·refine jN 9 ?_
    refine WA.splitB (i := 16) rfl (fun g16 => ?_) (fun g16 => ?_)
    ·refine jN 13 ?_
     refine WA.splitB (i := 21) rfl (fun g21 => ?_) (fun g21 => ?_)
     ·refine jN 19 ?_
      exact WQ.ret (rs := [.tmp 2]) rfl (.tmp rfl .nil) (fun w hS => ⟨by simp [tup, inWordB_int, *], hS⟩)
     ·refine jN 9 ?_
      refine WA.splitB (i := 24) rfl (fun g24 => ?_) (fun g24 => ?_)
      ·refine jN 16 ?_
       exact WQ.ret (rs := [.tmp 2]) rfl (.tmp rfl .nil) (fun w hS => ⟨by simp [tup, inWordB_int, *], hS⟩)
      ·refine jN 14 ?_
       exact WQ.ret (rs := [.tmp 2]) rfl (.tmp rfl .nil) (fun w hS => ⟨by simp [tup, inWordB_int, *], hS⟩)
    ·refine jN 20 ?_
     refine WA.splitB (i := 24) rfl (fun g24 => ?_) (fun g24 => ?_)
     ·refine jN 16 ?_
      exact WQ.ret (rs := [.tmp 2]) rfl (.tmp rfl .nil) (fun w hS => ⟨by simp [tup, inWordB_int, *], hS⟩)
     ·refine jN 14 ?_
      exact WQ.ret (rs := [.tmp 2]) rfl (.tmp rfl .nil) (fun w hS => ⟨by simp [tup, inWordB_int, *], hS⟩)
  ·refine jN 20 ?_
   refine WA.splitB (i := 16) rfl (fun g16 => ?_) (fun g16 => ?_)
   ·refine jN 13 ?_
    refine WA.splitB (i := 21) rfl (fun g21 => ?_) (fun g21 => ?_)
    ·refine jN 19 ?_
     exact WQ.ret (rs := [.tmp 2]) rfl (.tmp rfl .nil) (fun w hS => ⟨by simp [tup, inWordB_int, *], hS⟩)
    ·refine jN 9 ?_
     refine WA.splitB (i := 24) rfl (fun g24 => ?_) (fun g24 => ?_)
     ·refine jN 16 ?_
      exact WQ.ret (rs := [.tmp 2]) rfl (.tmp rfl .nil) (fun w hS => ⟨by simp [tup, inWordB_int, *], hS⟩)
     ·refine jN 14 ?_
      exact WQ.ret (rs := [.tmp 2]) rfl (.tmp rfl .nil) (fun w hS => ⟨by simp [tup, inWordB_int, *], hS⟩)
   ·refine jN 20 ?_
    refine WA.splitB (i := 24) rfl (fun g24 => ?_) (fun g24 => ?_)
    ·refine jN 16 ?_
     exact WQ.ret (rs := [.tmp 2]) rfl (.tmp rfl .nil) (fun w hS => ⟨by simp [tup, inWordB_int, *], hS⟩)
    ·refine jN 14 ?_
     exact WQ.ret (rs := [.tmp 2]) rfl (.tmp rfl .nil) (fun w hS => ⟨by simp [tup, inWordB_int, *], hS⟩)

theorem take_all {l : List UInt8} {k : Nat} {c : UInt8} (h : l[k]? = some c) : (l.take (k + 1)).all Fm.inWordB = ((l.take k).all Fm.inWordB && Fm.inWordB c) := by
 rw [List.take_add_one, h]; simp
def nmBad (l : List UInt8) : Bool := l.isEmpty || decide (32 < l.length) || (match l with | [] => false | c :: _ => (48 ≤ c && c ≤ 57))
theorem nmBad_name (l : List UInt8) : Fm.isNameB l = (!nmBad l && l.all Fm.inWordB) := by
 cases l with
 | nil => rfl
 | cons c r =>
  have e : decide ((c :: r).length ≤ 32) = !decide (32 < (c :: r).length) := by
   rw [Bool.eq_iff_iff]; simp
  simp only [Fm.isNameB, nmBad, List.isEmpty_cons, Bool.false_or, e, Bool.not_or]
theorem nmBad_len {l : List UInt8} (h : nmBad l = false) : l.length ≤ 32 := by
 simp only [nmBad, Bool.or_eq_false_iff, decide_eq_false_iff_not] at h
 omega
theorem nmBad_nil {l : List UInt8} (h : decide ((l.length : Int) < 1) = true) : nmBad l = true := by
 have : l = [] := List.eq_nil_of_length_eq_zero (by simp at h; omega)
 subst this; rfl
theorem nmBad_long {l : List UInt8} (h : decide ((32 : Int) < l.length) = true) : nmBad l = true := by
 have : 32 < l.length := by simp at h; omega
 simp [nmBad, this]
theorem nmBad_digit {l : List UInt8} {c : UInt8} (hc : l[0]? = some c) (h1 : decide ((48 : Int) ≤ c.toNat) = true) : nmBad l = (decide (32 < l.length) || decide ((c.toNat : Int) ≤ 57)) := by
 cases l with
 | nil => simp at hc
 | cons a r =>
  simp at hc; subst hc
  have : (48 : UInt8) ≤ a := by rw [u8_le]; simpa using h1
  simp [nmBad, this, u8_le]
theorem nmBad_nodigit {l : List UInt8} {c : UInt8} (hc : l[0]? = some c) (h1 : decide ((48 : Int) ≤ c.toNat) = false) : nmBad l = decide (32 < l.length) := by
 cases l with
 | nil => simp at hc
 | cons a r =>
  simp at hc; subst hc
  have : ¬ (48 : UInt8) ≤ a := by rw [u8_le]; simpa using h1
  simp [nmBad, this]

theorem isName_c (l : List UInt8) (w : World) : Pure Tryz.prog 51 [.string (str l)] w (.bool (Fm.isNameB l)) := by
 refine enter Tryz.func51 rfl Tryz.ntmps51 rfl (St.init _) ?_
 refine jN 8 ?_
 refine WC.cutF [(21, .bool (nmBad l)), (0, .string (str l)), (2, .bool false)] (fun Q' hQ => ?_) ?_
 ·refine jN 9 ?_
  refine WA.splitB (i := 7) rfl (fun h7 => ?_) (fun h7 => ?_)
  ·refine jN 29 ?_
   refine WQ.byCut hQ (subF_bool ?_ ⟨rfl, rfl, trivial⟩ rfl)
   first | exact nmBad_nil h7 | exact nmBad_long h12 | (rw [nmBad_digit hc0 h16]; simp at h12; simp; omega) | (rw [nmBad_nodigit hc0 h16]; simp at h12; simp; omega)
  ·have hpos : 0 < l.length := by simp at h7; omega
   obtain ⟨c0, hc0⟩ : ∃ c, l[0]? = some c := ⟨l[0], by simp [hpos]⟩
   refine jN 13 ?_
   refine WA.splitB (i := 12) rfl (fun h12 => ?_) (fun h12 => ?_)
   ·refine jN 19 ?_
    refine WQ.byCut hQ (subF_bool ?_ ⟨rfl, rfl, trivial⟩ rfl)
    first | exact nmBad_nil h7 | exact nmBad_long h12 | (rw [nmBad_digit hc0 h16]; simp at h12; simp; omega) | (rw [nmBad_nodigit hc0 h16]; simp at h12; simp; omega)
   ·refine jN 5 ?_
    refine WL.indexS (i := 0) F.und9 rfl rfl rfl hc0 ?_
    refine jN 6 ?_
    refine WA.splitB (i := 16) rfl (fun h16 => ?_) (fun h16 => ?_)
    ·refine jN 5 ?_
     refine WL.indexS (i := 0) F.und9 rfl rfl rfl hc0 ?_
     refine jN 9 ?_
     refine WQ.byCut hQ (subF_bool ?_ ⟨rfl, rfl, trivial⟩ rfl)
     first | exact nmBad_nil h7 | exact nmBad_long h12 | (rw [nmBad_digit hc0 h16]; simp at h12; simp; omega) | (rw [nmBad_nodigit hc0 h16]; simp at h12; simp; omega)
    ·refine jN 12 ?_
     refine WQ.byCut hQ (subF_bool ?_ ⟨rfl, rfl, trivial⟩ rfl)
     first | exact nmBad_nil h7 | exact nmBad_long h12 | (rw [nmBad_digit hc0 h16]; simp at h12; simp; omega) | (rw [nmBad_nodigit hc0 h16]; simp at h12; simp; omega)
 refine jN 1 ?_
 refine WC.cond rfl (fun h21 => ?_) (fun h21 => ?_)
 ·refine jN 8 ?_
  exact WQ.ret (rs := [.tmp 2]) rfl (.tmp rfl .nil) (fun w hS => ⟨by simp [tup, nmBad_name, h21], hS⟩)
 ·have hl : l.length ≤ 32 := nmBad_len h21
  refine jN 14 ?_
  refine WC.loop (α := Nat) (fun k => k ≤ l.length ∧ (l.take k).all Fm.inWordB = true) (fun k => [(0, .string (str l)), (2, .bool false), (23, .int .i64 l.length), (24, .int .i64 k)]) (fun _ => []) (fun k => l.length - k) (0) ?_ ?_ ?_ ?_
  ·exact ⟨by omega, by simp⟩
  ·exact ⟨rfl, rfl, rfl, rfl, trivial⟩
  ·rfl
  rintro k ⟨hk, hal⟩
  refine jN 7 ?_
  refine WC.cond rfl (fun h25 => ?_) (fun h25 => ?_)
  ·have hlt : k < l.length := by simpa using h25
   obtain ⟨c, hc⟩ : ∃ c, l[k]? = some c := ⟨l[k], by simp [hlt]⟩
   refine jN 19 ?_
   refine WL.indexS F.und9 rfl rfl rfl (by assumption) ?_
   refine jN 1 ?_
   refine WL.callV F.fun50 rfl rfl (fun w _ => inWord_c c w) ?_
   refine jN 4 ?_
   refine WC.cond rfl (fun h31 => ?_) (fun h31 => ?_)
   ·have hcw : Fm.inWordB c = false := by simpa using h31
    refine jN 12 ?_
    exact WQ.ret (rs := [.tmp 2]) rfl (.tmp rfl .nil) (fun w hS => ⟨by simp [tup, nmBad_name]; intro _; exact ⟨c, List.mem_of_getElem? hc, hcw⟩, hS⟩)
   ·have hcw : Fm.inWordB c = true := by simpa using h31
    refine jN 9 ?_
    refine WQ.back (k + 1) ?_ ?_ ?_ ?_
    ·exact ⟨by omega, by rw [take_all hc, hal, hcw]; rfl⟩
    ·omega
    ·exact ⟨rfl, rfl, rfl, rfl, trivial⟩
    ·rfl
  ·have hkl : k = l.length := by simp at h25; omega
   subst hkl
   rw [List.take_length] at hal
   refine jN 12 ?_
   exact WQ.ret (rs := [.tmp 2]) rfl (.tmp rfl .nil) (fun w hS => ⟨by simp [tup, nmBad_name, h21, hal], hS⟩)

end Go.Proofs.YtkgllhkhdjodeaaGreatDoor

namespace Go.Proofs.YtkgllhkhdjodeaaGreatDoor
open Go Go.Eng Go.Proofs
theorem pre_len {rest s : List UInt8} (h : decide ((s.length : Int) ≤ rest.length) = false) : Fm.pre rest s = false := by
 have : ¬ s.length ≤ rest.length := by simp at h; omega
 simp [Fm.pre, this]
theorem pre_eq {rest s : List UInt8} (h : decide ((s.length : Int) ≤ rest.length) = true) : Fm.pre rest s = (rest.take s.length == s) := by
 have : s.length ≤ rest.length := by simpa using h
 simp [Fm.pre, this]

theorem litePrefix_c (l s : List UInt8) (w : World) : Pure Tryz.prog 43 [.string (str l), .string (str s)] w (.bool (Fm.pre l s)) := by
 refine enter Tryz.func43 rfl Tryz.ntmps43 rfl (St.init _) ?_
 refine jN 20 ?_
 refine WA.splitB (i := 10) rfl (fun h10 => ?_) (fun h10 => ?_)
 ·refine jN 11 ?_
  refine WL.y (F := fun _ => True) (Yl.sliceTo F.und9 rfl rfl (by simpa using h10)) rfl (fun _ _ => trivial) ?_
  refine jN 13 ?_
  exact WQ.ret (rs := [.tmp 4]) rfl (.tmp rfl .nil) (fun w hS => ⟨by rw [pre_eq h10]; rfl, hS⟩)
 ·refine jN 19 ?_
  exact WQ.ret (rs := [.tmp 4]) rfl (.tmp rfl .nil) (fun w hS => ⟨by rw [pre_len h10]; rfl, hS⟩)

theorem hasPrefix_c (l s : List UInt8) (w : World) : Pure Tryz.prog 17 [.string (str l), .string (str s)] w (.bool (Fm.pre l s)) := by
 refine enter Tryz.func17 rfl Tryz.ntmps17 rfl (St.init _) ?_
 refine jN 13 ?_
 refine WL.callV F.fun43 rfl rfl (fun w _ => litePrefix_c l s w) ?_
 refine jN 5 ?_
 exact WQ.ret (rs := [.tmp 4]) rfl (.tmp rfl .nil) (fun w hS => ⟨rfl, hS⟩)

/-- The parser's block. -/
abbrev pcell (text : List UInt8) (at_ : Nat) (word : List UInt8) : List Value := [.string (str text), .int .i64 (at_ : Int), .string (str word)]
def trouble (at_ : Nat) : List PanicEntry := [{ v := .iface 68 (.agg #[.int .i64 (at_ : Int)]), recovered := false }]
def NRpost (bp : Nat) (text : List UInt8) (w : World) : Fm.NR → Ending → World → Prop
 | .ok at_ word, e, w' => e = .returned (.tuple #[]) ∧ St w [bp] [pt bp (pcell text at_ word) 72] w'
 | .bad at_, e, w' => e = .panicked (trouble at_) ∧ ∃ cs, St w [bp] [pt bp cs 72] w'

theorem test_in {text : List UInt8} {p0 k : Nat} {c : UInt8} (hk : k ≤ Fm.blanks (text.drop p0)) (_h : decide (((p0 + k : Nat) : Int) < text.length) = true) (hc : text[p0 + k]? = some c) : decide (k < Fm.blanks (text.drop p0)) = ((c.toNat : Int) == 32) := by
 have h1 := Fm.blanks_get (text.drop p0) k hk
 rw [List.getElem?_drop, hc] at h1
 rw [Bool.eq_iff_iff, decide_eq_true_iff, ← h1]
 simp only [Option.some.injEq, beq_iff_eq, u8_eq]
 rfl
theorem test_out {text : List UInt8} {p0 k : Nat} (hk : k ≤ Fm.blanks (text.drop p0)) (h : decide (((p0 + k : Nat) : Int) < text.length) = false) : decide (k < Fm.blanks (text.drop p0)) = false := by
 have h1 := Fm.blanks_get (text.drop p0) k hk
 have : text.length ≤ p0 + k := by simp at h; omega
 rw [List.getElem?_drop, List.getElem?_eq_none this] at h1
 simp at h1
 simp; omega
theorem word_in {rest : List UInt8} {n : Nat} {c : UInt8} (hn : n ≤ (Fm.word rest).length) (hc : rest[n]? = some c) : decide (n < (Fm.word rest).length) = Fm.inWordB c := by
 rw [Bool.eq_iff_iff, decide_eq_true_iff]
 exact (Fm.takeWhile_get Fm.inWordB rest n c hn hc).symm
theorem word_out {rest : List UInt8} {n : Nat} (hn : n ≤ (Fm.word rest).length) (h : decide ((n : Int) < rest.length) = false) : decide (n < (Fm.word rest).length) = false := by
 have h1 := Fm.takeWhile_le Fm.inWordB rest
 have : (Fm.word rest).length ≤ rest.length := h1
 simp at h ⊢; omega
theorem tok_bad {rest : List UInt8} (hne : rest ≠ []) (hf : Fm.signs.find? (Fm.pre rest) = none) (h : (!(Fm.word rest == [48]) && !(Fm.word rest == [49]) && !(Fm.isNameB (Fm.word rest))) = true) : Fm.tok rest = none := by
 simp at h
 simp [Fm.tok, hne, hf, h]
theorem tok_word {rest : List UInt8} (hne : rest ≠ []) (hf : Fm.signs.find? (Fm.pre rest) = none) (h : (!(Fm.word rest == [48]) && !(Fm.word rest == [49]) && !(Fm.isNameB (Fm.word rest))) = false) : Fm.tok rest = some (Fm.word rest) := by
 have : Fm.word rest = [48] ∨ Fm.word rest = [49] ∨ Fm.isNameB (Fm.word rest) = true := by
  by_cases h1 : Fm.word rest = [48]
  ·exact .inl h1
  ·by_cases h2 : Fm.word rest = [49]
   ·exact .inr (.inl h2)
   ·simp [h1, h2] at h; exact .inr (.inr h)
 simp only [Fm.tok, hne, if_false, hf, this, if_true]

theorem next_c (bp : Nat) (text wd : List UInt8) (at_ : Nat) (hle : at_ + wd.length ≤ text.length) (hmax : text.length ≤ 140737488355328) (w : World) (hp : w.heap[bp]? = some (.cells (pcell text at_ wd).toArray 72 (0, 0))) :
  Calls Tryz.prog 30 [Value.pointer (some ⟨bp, 0, none⟩)].toArray w (NRpost bp text w (Fm.next text at_ wd)) := by
 obtain ⟨p0, hp0⟩ : ∃ p0, p0 = at_ + wd.length := ⟨_, rfl⟩
 have hp0l : p0 ≤ text.length := by omega
 refine enter Tryz.func30 rfl Tryz.ntmps30 rfl (St.init1 hp) ?_
 refine jN 1 ?_
 refine WC.draws [([12], fun w => w.cell? ⟨bp, 1, none⟩ = some (.int .i64 (at_ : Int))), ([12], fun w => w.cell? ⟨bp, 2, none⟩ = some (.string (str wd)))] (by kernel_rfl) (fun w hS => facts_cons (hS.cell jM rfl) (facts_cons (hS.cell jM rfl) (facts_nil))) ?_
 refine jT 0 rfl (Yl.move rfl) ?_
 refine jT 1 rfl (Yl.nilCheck rfl) ?_
 refine jT 2 rfl (Yl.fieldAddr0 F.fld72_1 rfl) ?_
 refine jF 3 0 rfl rfl (Yl.load1 F.one3 rfl) ?_
 refine jT 4 rfl (Yl.move rfl) ?_
 refine jT 5 rfl (Yl.nilCheck rfl) ?_
 refine jT 6 rfl (Yl.fieldAddr0 F.fld72_2 rfl) ?_
 refine jF 7 1 rfl rfl (Yl.load1 F.one9 rfl) ?_
 refine jT 8 rfl (Yl.lenS F.und9 rfl) ?_
 refine jT 9 rfl (Yl.add rfl rfl ⟨by omega, by omega⟩) ?_
 refine jT 10 rfl (Yl.nilCheck rfl) ?_
 refine jT 11 rfl (Yl.fieldAddr0 F.fld72_1 rfl) ?_
 refine jA 12 rfl ?_
 refine WL.store1 F.one3 rfl rfl rfl jU jS ?_
 refine jG ?_
 refine jD ?_
 refine jN 3 ?_
 refine WC.loop (α := Nat) (fun k => k ≤ Fm.blanks (text.drop p0)) (fun _ => [(0, .pointer (some ⟨bp, 0, none⟩))]) (fun k => [pt bp [.string (str text), .int .i64 ((p0 + k : Nat) : Int), .string (str wd)] 72]) (fun k => Fm.blanks (text.drop p0) - k) (0) ?_ ?_ ?_ ?_
 ·exact Nat.zero_le _
 ·exact ⟨rfl, trivial⟩
 ·(subst hp0; rfl)
 rintro k hk
 refine jN 2 ?_
 refine WC.cutP [(39, .bool (decide (k < Fm.blanks (text.drop p0)))), (0, .pointer (some ⟨bp, 0, none⟩))] (fun c a d v w h => by cases d <;> exact h) (fun Q' hP hQ => ?_) ?_
 ·refine WC.draws [([], fun w => w.cell? ⟨bp, 1, none⟩ = some (.int .i64 ((p0 + k : Nat) : Int))), ([], fun w => w.cell? ⟨bp, 0, none⟩ = some (.string (str text))), ([], fun w => w.cell? ⟨bp, 0, none⟩ = some (.string (str text))), ([], fun w => w.cell? ⟨bp, 1, none⟩ = some (.int .i64 ((p0 + k : Nat) : Int)))] (by kernel_rfl) (fun w hS => facts_cons (hS.cell jM rfl) (facts_cons (hS.cell jM rfl) (facts_cons (hS.cell jM rfl) (facts_cons (hS.cell jM rfl) (facts_nil))))) ?_
  refine jT 0 rfl (Yl.move rfl) ?_
  refine jT 1 rfl (Yl.nilCheck rfl) ?_
  refine jT 2 rfl (Yl.fieldAddr0 F.fld72_1 rfl) ?_
  refine jF 3 0 rfl rfl (Yl.load1 F.one3 rfl) ?_
  refine jT 4 rfl (Yl.move rfl) ?_
  refine jT 5 rfl (Yl.nilCheck rfl) ?_
  refine jT 6 rfl (Yl.fieldAddr0 F.fld72_0 rfl) ?_
  refine jF 7 1 rfl rfl (Yl.load1 F.one9 rfl) ?_
  refine jT 8 rfl (Yl.lenS F.und9 rfl) ?_
  refine jT 9 rfl (Yl.ltI rfl rfl) ?_
  refine jT 10 rfl (Yl.move rfl) ?_
  refine fun hcl => WA.splitB (i := 28) rfl (fun h28 => ?_) (fun h28 => ?_)
  ·refine (show WD _ _ _ _ _ _ _ _ _ _ _ _ from ?_) hcl
   have hlt : p0 + k < text.length := by simp at h28; omega
   obtain ⟨c, hc⟩ : ∃ c, text[p0 + k]? = some c := ⟨text[p0 + k], by simp [hlt]⟩
   refine WD.takeG (i := 11) rfl rfl rfl rfl rfl rfl (by kernel_rfl) (by kernel_rfl) (by kernel_rfl) (fun _ _ _ h => hP _ _ _ _ _ h) (by kernel_rfl) need_none (Yl.move rfl) ?_
   refine WD.takeG (i := 12) rfl rfl rfl rfl rfl rfl (by kernel_rfl) (by kernel_rfl) (by kernel_rfl) (fun _ _ _ h => hP _ _ _ _ _ h) (by kernel_rfl) need_none (Yl.nilCheck rfl) ?_
   refine WD.takeG (i := 13) rfl rfl rfl rfl rfl rfl (by kernel_rfl) (by kernel_rfl) (by kernel_rfl) (fun _ _ _ h => hP _ _ _ _ _ h) (by kernel_rfl) need_none (Yl.fieldAddr0 F.fld72_0 rfl) ?_
   refine WD.takeG (i := 14) rfl rfl rfl rfl rfl rfl (by kernel_rfl) (by kernel_rfl) (by kernel_rfl) (fun _ _ _ h => hP _ _ _ _ _ h) (by kernel_rfl) (need_at 2 22 rfl (by kernel_rfl)) (Yl.load1 F.one9 rfl) ?_
   refine WD.takeG (i := 15) rfl rfl rfl rfl rfl rfl (by kernel_rfl) (by kernel_rfl) (by kernel_rfl) (fun _ _ _ h => hP _ _ _ _ _ h) (by kernel_rfl) need_none (Yl.move rfl) ?_
   refine WD.takeG (i := 16) rfl rfl rfl rfl rfl rfl (by kernel_rfl) (by kernel_rfl) (by kernel_rfl) (fun _ _ _ h => hP _ _ _ _ _ h) (by kernel_rfl) need_none (Yl.nilCheck rfl) ?_
   refine WD.takeG (i := 17) rfl rfl rfl rfl rfl rfl (by kernel_rfl) (by kernel_rfl) (by kernel_rfl) (fun _ _ _ h => hP _ _ _ _ _ h) (by kernel_rfl) need_none (Yl.fieldAddr0 F.fld72_1 rfl) ?_
   refine WD.takeG (i := 18) rfl rfl rfl rfl rfl rfl (by kernel_rfl) (by kernel_rfl) (by kernel_rfl) (fun _ _ _ h => hP _ _ _ _ _ h) (by kernel_rfl) (need_at 3 22 rfl (by kernel_rfl)) (Yl.load1 F.one3 rfl) ?_
   refine WD.takeG (i := 19) rfl rfl rfl rfl rfl rfl (by kernel_rfl) (by kernel_rfl) (by kernel_rfl) (fun _ _ _ h => hP _ _ _ _ _ h) (by kernel_rfl) need_none (Yl.indexS (i := p0 + k) F.und9 rfl rfl hc) ?_
   refine WD.takeG (i := 20) rfl rfl rfl rfl rfl rfl (by kernel_rfl) (by kernel_rfl) (by kernel_rfl) (fun _ _ _ h => hP _ _ _ _ _ h) (by kernel_rfl) need_none (Yl.eqI rfl rfl) ?_
   refine jT 21 rfl (Yl.pickT rfl rfl) ?_
   refine jD ?_
   refine WQ.byCut hQ (subF_bool ?_ ⟨rfl, trivial⟩ rfl)
   first | exact test_in hk h28 hc | exact test_out hk h28
  ·refine (show WD _ _ _ _ _ _ _ _ _ _ _ _ from ?_) hcl
   refine WD.skip (i := 11) rfl rfl rfl rfl rfl rfl rfl (by kernel_rfl) (by kernel_rfl) (by kernel_rfl) (fun _ _ _ h => hP _ _ _ _ _ h) (by kernel_rfl) ?_
   refine WD.skip (i := 12) rfl rfl rfl rfl rfl rfl rfl (by kernel_rfl) (by kernel_rfl) (by kernel_rfl) (fun _ _ _ h => hP _ _ _ _ _ h) (by kernel_rfl) ?_
   refine WD.skip (i := 13) rfl rfl rfl rfl rfl rfl rfl (by kernel_rfl) (by kernel_rfl) (by kernel_rfl) (fun _ _ _ h => hP _ _ _ _ _ h) (by kernel_rfl) ?_
   refine WD.skip (i := 14) rfl rfl rfl rfl rfl rfl rfl (by kernel_rfl) (by kernel_rfl) (by kernel_rfl) (fun _ _ _ h => hP _ _ _ _ _ h) (by kernel_rfl) ?_
   refine WD.skip (i := 15) rfl rfl rfl rfl rfl rfl rfl (by kernel_rfl) (by kernel_rfl) (by kernel_rfl) (fun _ _ _ h => hP _ _ _ _ _ h) (by kernel_rfl) ?_
   refine WD.skip (i := 16) rfl rfl rfl rfl rfl rfl rfl (by kernel_rfl) (by kernel_rfl) (by kernel_rfl) (fun _ _ _ h => hP _ _ _ _ _ h) (by kernel_rfl) ?_
   refine WD.skip (i := 17) rfl rfl rfl rfl rfl rfl rfl (by kernel_rfl) (by kernel_rfl) (by kernel_rfl) (fun _ _ _ h => hP _ _ _ _ _ h) (by kernel_rfl) ?_
   refine WD.skip (i := 18) rfl rfl rfl rfl rfl rfl rfl (by kernel_rfl) (by kernel_rfl) (by kernel_rfl) (fun _ _ _ h => hP _ _ _ _ _ h) (by kernel_rfl) ?_
   refine WD.skip (i := 19) rfl rfl rfl rfl rfl rfl rfl (by kernel_rfl) (by kernel_rfl) (by kernel_rfl) (fun _ _ _ h => hP _ _ _ _ _ h) (by kernel_rfl) ?_
   refine WD.skip (i := 20) rfl rfl rfl rfl rfl rfl rfl (by kernel_rfl) (by kernel_rfl) (by kernel_rfl) (fun _ _ _ h => hP _ _ _ _ _ h) (by kernel_rfl) ?_
   refine jT 21 rfl (Yl.pickF rfl rfl) ?_
   refine jD ?_
   refine WQ.byCut hQ (subF_bool ?_ ⟨rfl, trivial⟩ rfl)
   first | exact test_in hk h28 hc | exact test_out hk h28
 refine jN 1 ?_
 refine WC.cond rfl (fun h39 => ?_) (fun h39 => ?_)
 ·have hlt : k < Fm.blanks (text.drop p0) := by simpa using h39
  have hb := Fm.blanks_le (text.drop p0)
  simp at hb
  refine jN 22 ?_
  refine WQ.back (k + 1) ?_ ?_ ?_ ?_
  ·exact by omega
  ·omega
  ·exact ⟨rfl, trivial⟩
  ·rfl
 ·have hkb : k = Fm.blanks (text.drop p0) := by simp at h39; omega
  obtain ⟨q, hq⟩ : ∃ q, q = p0 + k := ⟨_, rfl⟩
  have hql : q ≤ text.length := by have := Fm.blanks_le (text.drop p0); simp at this; omega
  rw [← hq]
  have hnx : Fm.next text at_ wd = match Fm.tok (text.drop q) with | some x => .ok q x | none => .bad q := by rw [hq, hkb, hp0]; rfl
  clear hq hkb hk h39
  refine jN 19 ?_
  refine WC.draws [([], fun w => w.cell? ⟨bp, 1, none⟩ = some (.int .i64 (q : Int))), ([], fun w => w.cell? ⟨bp, 0, none⟩ = some (.string (str text)))] (by kernel_rfl) (fun w hS => facts_cons (hS.cell jM rfl) (facts_cons (hS.cell jM rfl) (facts_nil))) ?_
  refine jT 0 rfl (Yl.move rfl) ?_
  refine jT 1 rfl (Yl.nilCheck rfl) ?_
  refine jT 2 rfl (Yl.fieldAddr0 F.fld72_1 rfl) ?_
  refine jF 3 0 rfl rfl (Yl.load1 F.one3 rfl) ?_
  refine jT 4 rfl (Yl.move rfl) ?_
  refine jT 5 rfl (Yl.nilCheck rfl) ?_
  refine jT 6 rfl (Yl.fieldAddr0 F.fld72_0 rfl) ?_
  refine jF 7 1 rfl rfl (Yl.load1 F.one9 rfl) ?_
  refine jT 8 rfl (Yl.lenS F.und9 rfl) ?_
  refine jT 9 rfl (Yl.eqI rfl rfl) ?_
  refine jD ?_
  refine jN 1 ?_
  refine WC.cond rfl (fun h59 => ?_) (fun h59 => ?_)
  ·have hqe : q = text.length := by simp at h59; omega
   refine jN 2 ?_
   refine WQ.ret (rs := []) rfl .nil (fun w hS => ?_)
   rw [hnx, hqe, List.drop_length]
   exact ⟨rfl, by rw [← hqe]; exact hS⟩
  ·have hqlt : q < text.length := by simp at h59; omega
   refine jN 3 ?_
   refine WC.draws [([], fun w => w.cell? ⟨bp, 0, none⟩ = some (.string (str text))), ([], fun w => w.cell? ⟨bp, 1, none⟩ = some (.int .i64 (q : Int)))] (by kernel_rfl) (fun w hS => facts_cons (hS.cell jM rfl) (facts_cons (hS.cell jM rfl) (facts_nil))) ?_
   refine jT 0 rfl (Yl.move rfl) ?_
   refine jT 1 rfl (Yl.nilCheck rfl) ?_
   refine jT 2 rfl (Yl.fieldAddr0 F.fld72_0 rfl) ?_
   refine jF 3 0 rfl rfl (Yl.load1 F.one9 rfl) ?_
   refine jT 4 rfl (Yl.move rfl) ?_
   refine jT 5 rfl (Yl.nilCheck rfl) ?_
   refine jT 6 rfl (Yl.fieldAddr0 F.fld72_1 rfl) ?_
   refine jF 7 1 rfl rfl (Yl.load1 F.one3 rfl) ?_
   refine jT 8 rfl (Yl.sliceFrom F.und9 rfl rfl hql) ?_
   refine jT 9 rfl (Yl.assign rfl) ?_
   refine jD ?_
   refine jN 5 ?_
   refine WL.buildA F.arT92 rfl jB rfl ?_
   refine jN 5 ?_
   obtain ⟨rest, hrest⟩ : ∃ rest, rest = text.drop q := ⟨_, rfl⟩
   have hrl : rest.length = text.length - q := by rw [hrest]; simp
   have hrne : rest ≠ [] := by intro h0; rw [h0] at hrl; simp at hrl; omega
   rw [← hrest] at hnx ⊢
   refine WC.say 69 (.agg (Fm.signs.map (fun s => Value.string (str s))).toArray) rfl ?_
   refine WC.loop (α := Nat) (fun i => i ≤ 10 ∧ (Fm.signs.take i).all (fun s => !Fm.pre rest s) = true) (fun i => [(0, .pointer (some ⟨bp, 0, none⟩)), (2, .string (str rest)), (69, .agg (Fm.signs.map (fun s => Value.string (str s))).toArray), (70, .int .i64 (i : Int))]) (fun _ => [pt bp [.string (str text), .int .i64 (q : Int), .string (str [])] 72]) (fun i => 10 - i) (0) ?_ ?_ ?_ ?_
   ·exact ⟨by omega, rfl⟩
   ·exact ⟨rfl, rfl, rfl, rfl, trivial⟩
   ·rfl
   rintro i ⟨hi, hno⟩
   refine jN 7 ?_
   refine WC.cond rfl (fun h71 => ?_) (fun h71 => ?_)
   ·have hi10 : i < 10 := by simp at h71; omega
    obtain ⟨s, hs⟩ : ∃ s, Fm.signs[i]? = some s := ⟨_, List.getElem?_eq_getElem (show i < Fm.signs.length from hi10)⟩
    refine jN 7 ?_
    refine WL.indexA1 (i := i) F.und92 F.one9 rfl rfl rfl hi10 (v := .string (str s)) (by simp [hs]) ?_
    refine jN 11 ?_
    refine WL.callV F.fun17 rfl rfl (fun w _ => hasPrefix_c rest s w) ?_
    refine jN 2 ?_
    refine WC.cond rfl (fun h75 => ?_) (fun h75 => ?_)
    ·have htok : Fm.tok rest = some s := by simp only [Fm.tok, hrne, if_false, Fm.find_at _ _ i s hno hs h75]
     refine jN 20 ?_
     refine WQ.ret (rs := []) rfl .nil (fun w hS => ?_)
     rw [hnx, htok]
     exact ⟨rfl, hS⟩
    ·have hpre : Fm.pre rest s = false := h75
     refine jN 9 ?_
     refine WQ.back (i + 1) ?_ ?_ ?_ ?_
     ·exact ⟨by omega, by rw [Fm.all_take_succ _ _ _ s hs, hno, hpre]; rfl⟩
     ·omega
     ·exact ⟨rfl, rfl, rfl, rfl, trivial⟩
     ·rfl
   ·have hi10 : i = 10 := by simp at h71; omega
    subst hi10
    have hfn : Fm.signs.find? (Fm.pre rest) = none := Fm.find_none _ _ hno
    refine jN 13 ?_
    refine WC.loop (α := Nat) (fun n => n ≤ (Fm.word rest).length) (fun n => [(0, .pointer (some ⟨bp, 0, none⟩)), (2, .string (str rest)), (5, .int .i64 (n : Int))]) (fun _ => [pt bp [.string (str text), .int .i64 (q : Int), .string (str [])] 72]) (fun n => (Fm.word rest).length - n) (0) ?_ ?_ ?_ ?_
    ·exact Nat.zero_le _
    ·exact ⟨rfl, rfl, rfl, trivial⟩
    ·rfl
    rintro n hn
    refine jN 2 ?_
    refine WC.cutF [(90, .bool (decide (n < (Fm.word rest).length))), (0, .pointer (some ⟨bp, 0, none⟩)), (2, .string (str rest)), (5, .int .i64 (n : Int))] (fun Q' hQ => ?_) ?_
    ·refine jN 1 ?_
     have hwl : (Fm.word rest).length ≤ rest.length := Fm.takeWhile_le _ _
     refine jN 10 ?_
     refine WA.splitB (i := 85) rfl (fun h85 => ?_) (fun h85 => ?_)
     ·have hlt : n < rest.length := by simp at h85; omega
      obtain ⟨c, hc⟩ : ∃ c, rest[n]? = some c := ⟨rest[n], by simp [hlt]⟩
      refine jN 8 ?_
      refine WL.indexS (i := n) F.und9 rfl rfl rfl hc ?_
      refine jN 2 ?_
      refine WL.callV F.fun50 rfl rfl (fun w _ => inWord_c c w) ?_
      refine jN 3 ?_
      refine WQ.byCut hQ (subF_bool ?_ ⟨rfl, rfl, rfl, trivial⟩ rfl)
      first | exact word_in hn hc | exact word_out hn h85
     ·refine jN 11 ?_
      refine WQ.byCut hQ (subF_bool ?_ ⟨rfl, rfl, rfl, trivial⟩ rfl)
      first | exact word_in hn hc | exact word_out hn h85
    refine jN 1 ?_
    refine WC.cond rfl (fun h90 => ?_) (fun h90 => ?_)
    ·have hlt : n < (Fm.word rest).length := by simpa using h90
     have hwl : (Fm.word rest).length ≤ rest.length := Fm.takeWhile_le _ _
     refine jN 12 ?_
     refine WQ.back (n + 1) ?_ ?_ ?_ ?_
     ·exact by omega
     ·omega
     ·exact ⟨rfl, rfl, rfl, trivial⟩
     ·rfl
    ·have hne : n = (Fm.word rest).length := by simp at h90; omega
     subst hne
     refine jN 14 ?_
     refine WL.y (F := fun _ => True) (Yl.sliceTo F.und9 rfl rfl (Fm.takeWhile_le _ _)) rfl (fun _ _ => trivial) ?_
     have htw : rest.take (Fm.word rest).length = Fm.word rest := Fm.takeWhile_take _ _
     rw [htw]
     refine jN 9 ?_
     refine WC.cutF [(118, .bool (!(Fm.word rest == [48]) && !(Fm.word rest == [49]) && !(Fm.isNameB (Fm.word rest)))), (0, .pointer (some ⟨bp, 0, none⟩))] (fun Q' hQ => ?_) ?_
     ·refine jN 13 ?_
      refine WA.splitB (i := 104) rfl (fun h104 => ?_) (fun h104 => ?_)
      ·refine jN 19 ?_
       refine WA.splitB (i := 111) rfl (fun h111 => ?_) (fun h111 => ?_)
       ·refine jN 14 ?_
        refine WL.callV F.fun51 rfl rfl (fun w _ => isName_c _ w) ?_
        refine jN 6 ?_
        refine WQ.byCut hQ (subF_bool ?_ ⟨rfl, trivial⟩ rfl)
        first | (rw [h104, h111]; rfl) | (rw [h104, h111]) | (rw [h104]; rfl)
       ·refine jN 15 ?_
        refine WQ.byCut hQ (subF_bool ?_ ⟨rfl, trivial⟩ rfl)
        first | (rw [h104, h111]; rfl) | (rw [h104, h111]) | (rw [h104]; rfl)
      ·refine jN 29 ?_
       refine WQ.byCut hQ (subF_bool ?_ ⟨rfl, trivial⟩ rfl)
       first | (rw [h104, h111]; rfl) | (rw [h104, h111]) | (rw [h104]; rfl)
     refine jN 1 ?_
     refine WC.cond rfl (fun h118 => ?_) (fun h118 => ?_)
     ·have htok : Fm.tok rest = none := tok_bad hrne hfn h118
      refine jN 12 ?_
      refine WL.makeIface F.conc68 rfl rfl ?_
      refine jN 1 ?_
      refine WL.panic rfl ?_
      refine WQ.panicked (fun w hS => ?_)
      rw [hnx, htok]
      exact ⟨rfl, _, hS⟩
     ·have htok : Fm.tok rest = some (Fm.word rest) := tok_word hrne hfn h118
      refine jN 1 ?_
      refine WQ.fin (rs := []) rfl .nil (fun w hS => ?_)
      rw [hnx, htok]
      exact ⟨rfl, hS⟩

end Go.Proofs.YtkgllhkhdjodeaaGreatDoor

namespace Go.Proofs.YtkgllhkhdjodeaaGreatDoor
open Go Go.Eng Go.Proofs
def TRpost (bp : Nat) (text : List UInt8) (at_ : Nat) (wd : List UInt8) (w : World) : Fm.TR → Ending → World → Prop
 | .no, e, w' => e = .returned (.bool false) ∧ St w [bp] [pt bp (pcell text at_ wd) 72] w'
 | .yes a x, e, w' => e = .returned (.bool true) ∧ St w [bp] [pt bp (pcell text a x) 72] w'
 | .bad a, e, w' => e = .panicked (trouble a) ∧ ∃ cs, St w [bp] [pt bp cs 72] w'
def PRpost (bp : Nat) (text : List UInt8) (w : World) : Fm.PR → Ending → World → Prop
 | .ok t a x, e, w' => ∃ y : List Nat × Option Addr × Nat, e = .returned (tv t y.2.1 y.2.2) ∧ St w [bp] [own y.1 t (tv t y.2.1 y.2.2), pt bp (pcell text a x) 72] w'
 | .bad a, e, w' => e = .panicked (trouble a) ∧ ∃ cs, St w [bp] [pt bp cs 72] w'
theorem takes_eq {text wd : List UInt8} {at_ : Nat} {a : Nat} {x : List UInt8} (h : Fm.next text at_ wd = .ok a x) : Fm.takes text at_ wd wd = .yes a x := by simp [Fm.takes, h]
theorem takes_bad {text wd : List UInt8} {at_ : Nat} {a : Nat} (h : Fm.next text at_ wd = .bad a) : Fm.takes text at_ wd wd = .bad a := by simp [Fm.takes, h]

theorem takes_c (bp : Nat) (text wd s : List UInt8) (at_ : Nat) (hle : at_ + wd.length ≤ text.length) (hmax : text.length ≤ 140737488355328) (w : World) (hp : w.heap[bp]? = some (.cells (pcell text at_ wd).toArray 72 (0, 0))) :
  Calls Tryz.prog 53 [Value.pointer (some ⟨bp, 0, none⟩), .string (str s)].toArray w (TRpost bp text at_ wd w (Fm.takes text at_ wd s)) := by
 refine enter Tryz.func53 rfl Tryz.ntmps53 rfl (St.init1 hp) ?_
 refine jN 23 ?_
 refine WC.cond rfl (fun h10 => ?_) (fun h10 => ?_)
 ·have hne : wd ≠ s := by simpa using h10
  refine jN 8 ?_
  refine WQ.ret (rs := [.tmp 4]) rfl (.tmp rfl .nil) (fun w hS => ?_)
  rw [show Fm.takes text at_ wd s = .no by simp [Fm.takes, hne]]
  exact ⟨rfl, hS⟩
 ·have hes : wd = s := by simpa using h10
  subst hes
  have hN := fun (w : World) (hp : w.heap[bp]? = some (.cells (pcell text at_ wd).toArray 72 (0, 0))) => next_c bp text wd at_ hle hmax w hp
  refine jN 3 ?_
  rcases hn : Fm.next text at_ wd with ⟨a, x⟩ | a
  ·rw [hn] at hN
   refine jN 4 ?_
   refine WL.call1S (bs' := pcell text a x) F.fun30 rfl rfl jR (fun w hS => hN w (hS.heap jM)) ?_
   refine jN 9 ?_
   refine WQ.ret (rs := [.tmp 4]) rfl (.tmp rfl .nil) (fun w hS => ?_)
   rw [takes_eq hn]
   exact ⟨rfl, hS⟩
  ·rw [hn] at hN
   refine jN 4 ?_
   refine WL.call1P F.fun30 (fun d h => by cases h; rfl) rfl jR (fun w hS => hN w (hS.heap jM)) (fun cs => ?_)
   refine jN 1 ?_
   refine WQ.panicked (fun w hS => ?_)
   rw [takes_bad hn]
   exact ⟨rfl, _, hS⟩

def MRpost (bp : Nat) (text : List UInt8) (at_ : Nat) (w : World) : Fm.TR → Ending → World → Prop
 | .no, e, w' => e = .panicked (trouble at_) ∧ ∃ cs, St w [bp] [pt bp cs 72] w'
 | .yes a x, e, w' => e = .returned (.tuple #[]) ∧ St w [bp] [pt bp (pcell text a x) 72] w'
 | .bad a, e, w' => e = .panicked (trouble a) ∧ ∃ cs, St w [bp] [pt bp cs 72] w'

theorem must_c (bp : Nat) (text wd s : List UInt8) (at_ : Nat) (hle : at_ + wd.length ≤ text.length) (hmax : text.length ≤ 140737488355328) (w : World) (hp : w.heap[bp]? = some (.cells (pcell text at_ wd).toArray 72 (0, 0))) :
  Calls Tryz.prog 54 [Value.pointer (some ⟨bp, 0, none⟩), .string (str s)].toArray w (MRpost bp text at_ w (Fm.takes text at_ wd s)) := by
 have hN := fun (w : World) (hp : w.heap[bp]? = some (.cells (pcell text at_ wd).toArray 72 (0, 0))) => takes_c bp text wd s at_ hle hmax w hp
 refine enter Tryz.func54 rfl Tryz.ntmps54 rfl (St.init1 hp) ?_
 refine jN 1 ?_
 rcases hn : Fm.takes text at_ wd s with _ | ⟨a, x⟩ | a
 ·rw [hn] at hN
  refine jN 6 ?_
  refine WL.call1S (bs' := pcell text at_ wd) F.fun53 rfl rfl jR (fun w hS => hN w (hS.heap jM)) ?_
  refine jN 17 ?_
  refine WL.makeIface F.conc68 rfl rfl ?_
  refine jN 1 ?_
  refine WL.panic rfl ?_
  refine WQ.panicked (fun w hS => ?_)
  exact ⟨rfl, _, hS⟩
 ·rw [hn] at hN
  refine jN 6 ?_
  refine WL.call1S (bs' := pcell text a x) F.fun53 rfl rfl jR (fun w hS => hN w (hS.heap jM)) ?_
  refine jN 6 ?_
  refine WQ.fin (rs := []) rfl .nil (fun w hS => ?_)
  exact ⟨rfl, hS⟩
 ·rw [hn] at hN
  refine jN 6 ?_
  refine WL.call1P F.fun53 (fun d h => by cases h; rfl) rfl jR (fun w hS => hN w (hS.heap jM)) (fun cs => ?_)
  refine jN 1 ?_
  refine WQ.panicked (fun w hS => ?_)
  exact ⟨rfl, _, hS⟩

end Go.Proofs.YtkgllhkhdjodeaaGreatDoor

namespace Go.Proofs.YtkgllhkhdjodeaaGreatDoor
open Go Go.Eng Go.Proofs
theorem _root_.Go.Eng.St.one1 {w0 w : World} {O : List Nat} {c : Chunk} {C : List Chunk} (h : St w0 O (c :: C) w) : St w0 O [c] w := h.sublist (List.Sublist.cons_cons _ (List.nil_sublist _))
theorem _root_.Go.Eng.St.two2 {w0 w : World} {O : List Nat} {c d : Chunk} {C : List Chunk} (h : St w0 O (c :: d :: C) w) : St w0 O [c, d] w := h.sublist (List.Sublist.cons_cons _ (List.Sublist.cons_cons _ (List.nil_sublist _)))
def PC (bp : Nat) (text : List UInt8) (f : Nat) (args : List Value) (nt : Fm.NT) (n : Nat) : Prop :=
 ∀ a x r w, a + x.length ≤ text.length → Fm.parse text n nt a x = some r → w.heap[bp]? = some (.cells (pcell text a x).toArray 72 (0, 0)) → Calls Tryz.prog f args.toArray w (PRpost bp text w r)
abbrev pp (bp : Nat) : Value := .pointer (some ⟨bp, 0, none⟩)

theorem implies_c (bp : Nat) (text : List UInt8) (hmax : text.length ≤ 140737488355328) (n : Nat) (hsub : PC bp text 86 [pp bp, .int .i64 0] (.row 0) n) (hrec : PC bp text 70 [pp bp] .implies n) :
  PC bp text 70 [pp bp] .implies (n + 1) := by
 intro a x r w hle hr hp
 simp only [Fm.parse] at hr
 refine enter Tryz.func70 rfl Tryz.ntmps70 rfl (St.init1 hp) ?_
 refine jN 3 ?_
 refine WL.alloc F.zero36 rfl (fun b2 => ?_)
 refine jN 3 ?_
 rcases Fm.bindP_ok hr with ⟨a1, h1, rfl⟩ | ⟨t1, a1, x1, h1, hr1⟩
 ·have hN := fun w hp => hsub _ _ _ w hle h1 hp
  refine jN 4 ?_
  refine WL.call1P (bs := pcell text a x) F.fun86 (fun d h => by cases h; rfl) rfl jR (fun w hS => hN w (hS.heap jM)) (fun cs => ?_)
  refine jN 1 ?_
  refine WQ.panicked (fun w hS => ?_)
  exact ⟨rfl, _, (St.pick hS (c := pt bp cs 72) jR).one1⟩
 ·have hN := fun w hp => hsub _ _ _ w hle h1 hp
  have g1 := Fm.parse_le _ _ _ _ _ _ _ hle h1
  refine jN 4 ?_
  refine WL.call1A (res := fun y : List Nat × Option Addr × Nat => tv t1 y.2.1 y.2.2) (c1 := fun y : List Nat × Option Addr × Nat => own y.1 t1 (tv t1 y.2.1 y.2.2)) (c2 := fun _ => pt bp (pcell text a1 x1) 72) (bs := pcell text a x) F.fun86 rfl rfl jR (fun w hS => hN w (hS.heap jM)) (fun y5 => ?_)
  refine jN 1 ?_
  refine WL.alloc F.zero36 rfl (fun b3 => ?_)
  refine jN 6 ?_
  rcases Fm.bindT_ok hr1 with ⟨ht, hr2⟩ | ⟨a2, x2, ht, hr2⟩ | ⟨a2, ht, rfl⟩
  ·have hT := fun w hp => takes_c bp text x1 [61, 62] a1 g1.2 hmax w hp
   rw [ht] at hT
   injection hr2 with hr2
   subst hr2
   refine jN 4 ?_
   refine WL.call1S (bs := pcell text a1 x1) (bs' := pcell text a1 x1) F.fun53 rfl rfl jR (fun w hS => hT w (hS.heap jM)) ?_
   refine jN 15 ?_
   refine WQ.ret (rs := [.cell 2 36]) rfl (.cellN F.agg36 rfl jM rfl .nil) (fun w hS => ?_)
   exact ⟨y5, rfl, (St.pick (St.pick hS (c := pt bp (pcell text a1 x1) 72) jR) (c := own y5.1 t1 (tv t1 y5.2.1 y5.2.2)) jR).two2⟩
  ·have hT := fun w hp => takes_c bp text x1 [61, 62] a1 g1.2 hmax w hp
   rw [ht] at hT
   have g2 := Fm.takes_le g1.2 ht
   refine jN 4 ?_
   refine WL.call1S (bs := pcell text a1 x1) (bs' := pcell text a2 x2) F.fun53 rfl rfl jR (fun w hS => hT w (hS.heap jM)) ?_
   refine jN 8 ?_
   rcases Fm.bindP_ok hr2 with ⟨a3, h3, rfl⟩ | ⟨t2, a3, x3, h3, hr3⟩
   ·have hM := fun w hp => hrec _ _ _ w g2.2 h3 hp
    refine WC.draws [([3, 4, 5], fun w => ∀ j v, [Value.int .u8 t1.op, .string (str t1.name), .slice y5.2.1 t1.kids.length y5.2.2][j]? = some v → w.cell? ⟨b3, 0 + j, none⟩ = some v)] (by kernel_rfl) (fun w hS => facts_cons (fun j v hv => by rw [Nat.zero_add]; exact hS.cell jM hv) (facts_nil)) ?_
    refine jF 0 0 rfl rfl (Yl.loadN F.agg36 rfl rfl) ?_
    refine jT 1 rfl (Yl.move rfl) ?_
    refine jA 2 rfl ?_
    refine WL.call1P (bs := pcell text a2 x2) F.fun70 (fun d h => by cases h; rfl) rfl jR (fun w hS => hM w (hS.heap jM)) (fun cs => ?_)
    refine jN 1 ?_
    refine WQ.panicked (fun w hS => ?_)
    exact ⟨rfl, _, (St.pick hS (c := pt bp cs 72) jR).one1⟩
   ·have hM := fun w hp => hrec _ _ _ w g2.2 h3 hp
    injection hr3 with hr3
    subst hr3
    refine WC.draws [([3, 4, 5], fun w => ∀ j v, [Value.int .u8 t1.op, .string (str t1.name), .slice y5.2.1 t1.kids.length y5.2.2][j]? = some v → w.cell? ⟨b3, 0 + j, none⟩ = some v)] (by kernel_rfl) (fun w hS => facts_cons (fun j v hv => by rw [Nat.zero_add]; exact hS.cell jM hv) (facts_nil)) ?_
    refine jF 0 0 rfl rfl (Yl.loadN F.agg36 rfl rfl) ?_
    refine jT 1 rfl (Yl.move rfl) ?_
    refine jA 2 rfl ?_
    refine WL.call1A (res := fun y : List Nat × Option Addr × Nat => tv t2 y.2.1 y.2.2) (c1 := fun y : List Nat × Option Addr × Nat => own y.1 t2 (tv t2 y.2.1 y.2.2)) (c2 := fun _ => pt bp (pcell text a3 x3) 72) (bs := pcell text a2 x2) F.fun70 rfl rfl jR (fun w hS => hM w (hS.heap jM)) (fun y12 => ?_)
    refine WD.on (closed_of (by kernel_rfl)) (fun w hS => Sx.keep (fun j v hv => by rw [Nat.zero_add]; exact hS.cell jM hv) (Sx.none)) ?_
    refine jA 3 rfl ?_
    refine WL.buildSlice F.sl34 F.ez34 rfl rfl rfl rfl jB rfl (fun b13 => ?_)
    refine jG ?_
    refine jA 4 rfl ?_
    refine WL.callV F.fun55 rfl rfl (fun w _ => node_c _ _ _ _ w) ?_
    refine jG ?_
    refine jA 5 rfl ?_
    refine WL.storeN F.agg36 rfl rfl rfl jO jU jS ?_
    refine jG ?_
    refine jD ?_
    refine jN 2 ?_
    refine WQ.ret (rs := [.cell 2 36]) rfl (.cellN F.agg36 rfl jM rfl .nil) (fun w hS => ?_)
    obtain ⟨F, h⟩ := St.node2 8 (St.pick (St.pick (St.pick (St.pick hS (c := pt bp (pcell text a3 x3) 72) jR) (c := own y12.1 t2 (tv t2 y12.2.1 y12.2.2)) jR) (c := own y5.1 t1 (tv t1 y5.2.1 y5.2.2)) jR) (c := pt b13 [.int .u8 t1.op, .string (str t1.name), .slice y5.2.1 t1.kids.length y5.2.2, .int .u8 t2.op, .string (str t2.name), .slice y12.2.1 t2.kids.length y12.2.2] 36) jR)
    exact ⟨(F, _, _), rfl, h.two2⟩
  ·have hT := fun w hp => takes_c bp text x1 [61, 62] a1 g1.2 hmax w hp
   rw [ht] at hT
   refine jN 4 ?_
   refine WL.call1P (bs := pcell text a1 x1) F.fun53 (fun d h => by cases h; rfl) rfl jR (fun w hS => hT w (hS.heap jM)) (fun cs => ?_)
   refine jN 2 ?_
   refine WQ.panicked (fun w hS => ?_)
   exact ⟨rfl, _, (St.pick hS (c := pt bp cs 72) jR).one1⟩

theorem same_c (bp : Nat) (text : List UInt8) (hmax : text.length ≤ 140737488355328) (n : Nat) (hsub : PC bp text 70 [pp bp] .implies n) (hrec : PC bp text 70 [pp bp] .implies n) :
  PC bp text 52 [pp bp] .same (n + 1) := by
 intro a x r w hle hr hp
 simp only [Fm.parse] at hr
 refine enter Tryz.func52 rfl Tryz.ntmps52 rfl (St.init1 hp) ?_
 refine jN 3 ?_
 refine WL.alloc F.zero36 rfl (fun b2 => ?_)
 refine jN 3 ?_
 rcases Fm.bindP_ok hr with ⟨a1, h1, rfl⟩ | ⟨t1, a1, x1, h1, hr1⟩
 ·have hN := fun w hp => hsub _ _ _ w hle h1 hp
  refine jN 4 ?_
  refine WL.call1P (bs := pcell text a x) F.fun70 (fun d h => by cases h; rfl) rfl jR (fun w hS => hN w (hS.heap jM)) (fun cs => ?_)
  refine jN 1 ?_
  refine WQ.panicked (fun w hS => ?_)
  exact ⟨rfl, _, (St.pick hS (c := pt bp cs 72) jR).one1⟩
 ·have hN := fun w hp => hsub _ _ _ w hle h1 hp
  have g1 := Fm.parse_le _ _ _ _ _ _ _ hle h1
  refine jN 4 ?_
  refine WL.call1A (res := fun y : List Nat × Option Addr × Nat => tv t1 y.2.1 y.2.2) (c1 := fun y : List Nat × Option Addr × Nat => own y.1 t1 (tv t1 y.2.1 y.2.2)) (c2 := fun _ => pt bp (pcell text a1 x1) 72) (bs := pcell text a x) F.fun70 rfl rfl jR (fun w hS => hN w (hS.heap jM)) (fun y5 => ?_)
  refine jN 1 ?_
  refine WL.alloc F.zero36 rfl (fun b3 => ?_)
  refine jN 6 ?_
  rcases Fm.bindT_ok hr1 with ⟨ht, hr2⟩ | ⟨a2, x2, ht, hr2⟩ | ⟨a2, ht, rfl⟩
  ·have hT := fun w hp => takes_c bp text x1 [60, 61, 62] a1 g1.2 hmax w hp
   rw [ht] at hT
   injection hr2 with hr2
   subst hr2
   refine jN 4 ?_
   refine WL.call1S (bs := pcell text a1 x1) (bs' := pcell text a1 x1) F.fun53 rfl rfl jR (fun w hS => hT w (hS.heap jM)) ?_
   refine jN 15 ?_
   refine WQ.ret (rs := [.cell 2 36]) rfl (.cellN F.agg36 rfl jM rfl .nil) (fun w hS => ?_)
   exact ⟨y5, rfl, (St.pick (St.pick hS (c := pt bp (pcell text a1 x1) 72) jR) (c := own y5.1 t1 (tv t1 y5.2.1 y5.2.2)) jR).two2⟩
  ·have hT := fun w hp => takes_c bp text x1 [60, 61, 62] a1 g1.2 hmax w hp
   rw [ht] at hT
   have g2 := Fm.takes_le g1.2 ht
   refine jN 4 ?_
   refine WL.call1S (bs := pcell text a1 x1) (bs' := pcell text a2 x2) F.fun53 rfl rfl jR (fun w hS => hT w (hS.heap jM)) ?_
   refine jN 8 ?_
   rcases Fm.bindP_ok hr2 with ⟨a3, h3, rfl⟩ | ⟨t2, a3, x3, h3, hr3⟩
   ·have hM := fun w hp => hrec _ _ _ w g2.2 h3 hp
    refine WC.draws [([3, 4, 5], fun w => ∀ j v, [Value.int .u8 t1.op, .string (str t1.name), .slice y5.2.1 t1.kids.length y5.2.2][j]? = some v → w.cell? ⟨b3, 0 + j, none⟩ = some v)] (by kernel_rfl) (fun w hS => facts_cons (fun j v hv => by rw [Nat.zero_add]; exact hS.cell jM hv) (facts_nil)) ?_
    refine jF 0 0 rfl rfl (Yl.loadN F.agg36 rfl rfl) ?_
    refine jT 1 rfl (Yl.move rfl) ?_
    refine jA 2 rfl ?_
    refine WL.call1P (bs := pcell text a2 x2) F.fun70 (fun d h => by cases h; rfl) rfl jR (fun w hS => hM w (hS.heap jM)) (fun cs => ?_)
    refine jN 1 ?_
    refine WQ.panicked (fun w hS => ?_)
    exact ⟨rfl, _, (St.pick hS (c := pt bp cs 72) jR).one1⟩
   ·have hM := fun w hp => hrec _ _ _ w g2.2 h3 hp
    injection hr3 with hr3
    subst hr3
    refine WC.draws [([3, 4, 5], fun w => ∀ j v, [Value.int .u8 t1.op, .string (str t1.name), .slice y5.2.1 t1.kids.length y5.2.2][j]? = some v → w.cell? ⟨b3, 0 + j, none⟩ = some v)] (by kernel_rfl) (fun w hS => facts_cons (fun j v hv => by rw [Nat.zero_add]; exact hS.cell jM hv) (facts_nil)) ?_
    refine jF 0 0 rfl rfl (Yl.loadN F.agg36 rfl rfl) ?_
    refine jT 1 rfl (Yl.move rfl) ?_
    refine jA 2 rfl ?_
    refine WL.call1A (res := fun y : List Nat × Option Addr × Nat => tv t2 y.2.1 y.2.2) (c1 := fun y : List Nat × Option Addr × Nat => own y.1 t2 (tv t2 y.2.1 y.2.2)) (c2 := fun _ => pt bp (pcell text a3 x3) 72) (bs := pcell text a2 x2) F.fun70 rfl rfl jR (fun w hS => hM w (hS.heap jM)) (fun y12 => ?_)
    refine WD.on (closed_of (by kernel_rfl)) (fun w hS => Sx.keep (fun j v hv => by rw [Nat.zero_add]; exact hS.cell jM hv) (Sx.none)) ?_
    refine jA 3 rfl ?_
    refine WL.buildSlice F.sl34 F.ez34 rfl rfl rfl rfl jB rfl (fun b13 => ?_)
    refine jG ?_
    refine jA 4 rfl ?_
    refine WL.callV F.fun55 rfl rfl (fun w _ => node_c _ _ _ _ w) ?_
    refine jG ?_
    refine jA 5 rfl ?_
    refine WL.storeN F.agg36 rfl rfl rfl jO jU jS ?_
    refine jG ?_
    refine jD ?_
    refine jN 2 ?_
    refine WQ.ret (rs := [.cell 2 36]) rfl (.cellN F.agg36 rfl jM rfl .nil) (fun w hS => ?_)
    obtain ⟨F, h⟩ := St.node2 9 (St.pick (St.pick (St.pick (St.pick hS (c := pt bp (pcell text a3 x3) 72) jR) (c := own y12.1 t2 (tv t2 y12.2.1 y12.2.2)) jR) (c := own y5.1 t1 (tv t1 y5.2.1 y5.2.2)) jR) (c := pt b13 [.int .u8 t1.op, .string (str t1.name), .slice y5.2.1 t1.kids.length y5.2.2, .int .u8 t2.op, .string (str t2.name), .slice y12.2.1 t2.kids.length y12.2.2] 36) jR)
    exact ⟨(F, _, _), rfl, h.two2⟩
  ·have hT := fun w hp => takes_c bp text x1 [60, 61, 62] a1 g1.2 hmax w hp
   rw [ht] at hT
   refine jN 4 ?_
   refine WL.call1P (bs := pcell text a1 x1) F.fun53 (fun d h => by cases h; rfl) rfl jR (fun w hS => hT w (hS.heap jM)) (fun cs => ?_)
   refine jN 2 ?_
   refine WQ.panicked (fun w hS => ?_)
   exact ⟨rfl, _, (St.pick hS (c := pt bp cs 72) jR).one1⟩

theorem choice_c (bp : Nat) (text : List UInt8) (hmax : text.length ≤ 140737488355328) (n : Nat) (hsame : PC bp text 52 [pp bp] .same n) (hch : PC bp text 31 [pp bp] .choice n) :
  PC bp text 31 [pp bp] .choice (n + 1) := by
 intro a x r w hle hr hp
 simp only [Fm.parse] at hr
 refine enter Tryz.func31 rfl Tryz.ntmps31 rfl (St.init1 hp) ?_
 refine jN 3 ?_
 refine WL.alloc F.zero36 rfl (fun b2 => ?_)
 refine jN 3 ?_
 rcases Fm.bindP_ok hr with ⟨a1, h1, rfl⟩ | ⟨t1, a1, x1, h1, hr1⟩
 ·have hN := fun w hp => hsame _ _ _ w hle h1 hp
  refine jN 4 ?_
  refine WL.call1P (bs := pcell text a x) F.fun52 (fun d h => by cases h; rfl) rfl jR (fun w hS => hN w (hS.heap jM)) (fun cs => ?_)
  refine jN 1 ?_
  refine WQ.panicked (fun w hS => ?_)
  exact ⟨rfl, _, (St.pick hS (c := pt bp cs 72) jR).one1⟩
 ·have hN := fun w hp => hsame _ _ _ w hle h1 hp
  have g1 := Fm.parse_le _ _ _ _ _ _ _ hle h1
  refine jN 4 ?_
  refine WL.call1A (res := fun y : List Nat × Option Addr × Nat => tv t1 y.2.1 y.2.2) (c1 := fun y : List Nat × Option Addr × Nat => own y.1 t1 (tv t1 y.2.1 y.2.2)) (c2 := fun _ => pt bp (pcell text a1 x1) 72) (bs := pcell text a x) F.fun52 rfl rfl jR (fun w hS => hN w (hS.heap jM)) (fun y6 => ?_)
  refine jN 1 ?_
  refine WL.alloc F.zero36 rfl (fun b3 => ?_)
  refine jN 6 ?_
  rcases Fm.bindT_ok hr1 with ⟨ht, hr2⟩ | ⟨a2, x2, ht, hr2⟩ | ⟨a2, ht, rfl⟩
  ·have hT := fun w hp => takes_c bp text x1 [63] a1 g1.2 hmax w hp
   rw [ht] at hT
   injection hr2 with hr2
   subst hr2
   refine jN 4 ?_
   refine WL.call1S (bs := pcell text a1 x1) (bs' := pcell text a1 x1) F.fun53 rfl rfl jR (fun w hS => hT w (hS.heap jM)) ?_
   refine jN 15 ?_
   refine WQ.ret (rs := [.cell 2 36]) rfl (.cellN F.agg36 rfl jM rfl .nil) (fun w hS => ?_)
   exact ⟨y6, rfl, (St.pick (St.pick hS (c := pt bp (pcell text a1 x1) 72) jR) (c := own y6.1 t1 (tv t1 y6.2.1 y6.2.2)) jR).two2⟩
  ·have hT := fun w hp => takes_c bp text x1 [63] a1 g1.2 hmax w hp
   rw [ht] at hT
   have g2 := Fm.takes_le g1.2 ht
   refine jN 4 ?_
   refine WL.call1S (bs := pcell text a1 x1) (bs' := pcell text a2 x2) F.fun53 rfl rfl jR (fun w hS => hT w (hS.heap jM)) ?_
   refine jN 8 ?_
   rcases Fm.bindP_ok hr2 with ⟨a3, h3, rfl⟩ | ⟨t2, a3, x3, h3, hr3⟩
   ·have hM := fun w hp => hch _ _ _ w g2.2 h3 hp
    refine jN 4 ?_
    refine WL.call1P (bs := pcell text a2 x2) F.fun31 (fun d h => by cases h; rfl) rfl jR (fun w hS => hM w (hS.heap jM)) (fun cs => ?_)
    refine jN 1 ?_
    refine WQ.panicked (fun w hS => ?_)
    exact ⟨rfl, _, (St.pick hS (c := pt bp cs 72) jR).one1⟩
   ·have hM := fun w hp => hch _ _ _ w g2.2 h3 hp
    have g3 := Fm.parse_le _ _ _ _ _ _ _ g2.2 h3
    refine jN 4 ?_
    refine WL.call1A (res := fun y : List Nat × Option Addr × Nat => tv t2 y.2.1 y.2.2) (c1 := fun y : List Nat × Option Addr × Nat => own y.1 t2 (tv t2 y.2.1 y.2.2)) (c2 := fun _ => pt bp (pcell text a3 x3) 72) (bs := pcell text a2 x2) F.fun31 rfl rfl jR (fun w hS => hM w (hS.heap jM)) (fun y12 => ?_)
    refine jN 1 ?_
    refine WL.alloc F.zero36 rfl (fun b4 => ?_)
    refine jN 5 ?_
    rcases Fm.bindT_ok hr3 with ⟨ht, hr4⟩ | ⟨a4, x4, ht, hr4⟩ | ⟨a4, ht, rfl⟩
    ·clear hT
     have hT := fun w hp => must_c bp text x3 [58] a3 g3.2 hmax w hp
     rw [ht] at hT
     injection hr4 with hr4
     subst hr4
     refine jN 4 ?_
     refine WL.call1P (bs := pcell text a3 x3) F.fun54 (fun d h => by cases h; rfl) rfl jR (fun w hS => hT w (hS.heap jM)) (fun cs => ?_)
     refine jN 1 ?_
     refine WQ.panicked (fun w hS => ?_)
     exact ⟨rfl, _, (St.pick hS (c := pt bp cs 72) jR).one1⟩
    ·clear hT
     have hT := fun w hp => must_c bp text x3 [58] a3 g3.2 hmax w hp
     rw [ht] at hT
     have g4 := Fm.takes_le g3.2 ht
     refine jN 4 ?_
     refine WL.call1S (bs := pcell text a3 x3) (bs' := pcell text a4 x4) F.fun54 rfl rfl jR (fun w hS => hT w (hS.heap jM)) ?_
     refine jN 3 ?_
     rcases Fm.bindP_ok hr4 with ⟨a5, h5, rfl⟩ | ⟨t3, a5, x5, h5, hr5⟩
     ·have hM2 := fun w hp => hch _ _ _ w g4.2 h5 hp
      refine WC.draws [([4, 5, 6], fun w => ∀ j v, [Value.int .u8 t1.op, .string (str t1.name), .slice y6.2.1 t1.kids.length y6.2.2][j]? = some v → w.cell? ⟨b3, 0 + j, none⟩ = some v), ([4, 5, 6], fun w => ∀ j v, [Value.int .u8 t2.op, .string (str t2.name), .slice y12.2.1 t2.kids.length y12.2.2][j]? = some v → w.cell? ⟨b4, 0 + j, none⟩ = some v)] (by kernel_rfl) (fun w hS => facts_cons (fun j v hv => by rw [Nat.zero_add]; exact hS.cell jM hv) (facts_cons (fun j v hv => by rw [Nat.zero_add]; exact hS.cell jM hv) (facts_nil))) ?_
      refine jF 0 0 rfl rfl (Yl.loadN F.agg36 rfl rfl) ?_
      refine jF 1 1 rfl rfl (Yl.loadN F.agg36 rfl rfl) ?_
      refine jT 2 rfl (Yl.move rfl) ?_
      refine jA 3 rfl ?_
      refine WL.call1P (bs := pcell text a4 x4) F.fun31 (fun d h => by cases h; rfl) rfl jR (fun w hS => hM2 w (hS.heap jM)) (fun cs => ?_)
      refine jN 1 ?_
      refine WQ.panicked (fun w hS => ?_)
      exact ⟨rfl, _, (St.pick hS (c := pt bp cs 72) jR).one1⟩
     ·have hM2 := fun w hp => hch _ _ _ w g4.2 h5 hp
      injection hr5 with hr5
      subst hr5
      refine WC.draws [([4, 5, 6], fun w => ∀ j v, [Value.int .u8 t1.op, .string (str t1.name), .slice y6.2.1 t1.kids.length y6.2.2][j]? = some v → w.cell? ⟨b3, 0 + j, none⟩ = some v), ([4, 5, 6], fun w => ∀ j v, [Value.int .u8 t2.op, .string (str t2.name), .slice y12.2.1 t2.kids.length y12.2.2][j]? = some v → w.cell? ⟨b4, 0 + j, none⟩ = some v)] (by kernel_rfl) (fun w hS => facts_cons (fun j v hv => by rw [Nat.zero_add]; exact hS.cell jM hv) (facts_cons (fun j v hv => by rw [Nat.zero_add]; exact hS.cell jM hv) (facts_nil))) ?_
      refine jF 0 0 rfl rfl (Yl.loadN F.agg36 rfl rfl) ?_
      refine jF 1 1 rfl rfl (Yl.loadN F.agg36 rfl rfl) ?_
      refine jT 2 rfl (Yl.move rfl) ?_
      refine jA 3 rfl ?_
      refine WL.call1A (res := fun y : List Nat × Option Addr × Nat => tv t3 y.2.1 y.2.2) (c1 := fun y : List Nat × Option Addr × Nat => own y.1 t3 (tv t3 y.2.1 y.2.2)) (c2 := fun _ => pt bp (pcell text a5 x5) 72) (bs := pcell text a4 x4) F.fun31 rfl rfl jR (fun w hS => hM2 w (hS.heap jM)) (fun y18 => ?_)
      refine WD.on (closed_of (by kernel_rfl)) (fun w hS => Sx.keep (fun j v hv => by rw [Nat.zero_add]; exact hS.cell jM hv) (Sx.keep (fun j v hv => by rw [Nat.zero_add]; exact hS.cell jM hv) (Sx.none))) ?_
      refine jA 4 rfl ?_
      refine WL.buildSlice F.sl34 F.ez34 rfl rfl rfl rfl jB rfl (fun b19 => ?_)
      refine jG ?_
      refine jA 5 rfl ?_
      refine WL.callV F.fun55 rfl rfl (fun w _ => node_c _ _ _ _ w) ?_
      refine jG ?_
      refine jA 6 rfl ?_
      refine WL.storeN F.agg36 rfl rfl rfl jO jU jS ?_
      refine jG ?_
      refine jD ?_
      refine jN 2 ?_
      refine WQ.ret (rs := [.cell 2 36]) rfl (.cellN F.agg36 rfl jM rfl .nil) (fun w hS => ?_)
      obtain ⟨F, h⟩ := St.node3 10 (St.pick (St.pick (St.pick (St.pick (St.pick hS (c := pt bp (pcell text a5 x5) 72) jR) (c := own y18.1 t3 (tv t3 y18.2.1 y18.2.2)) jR) (c := own y12.1 t2 (tv t2 y12.2.1 y12.2.2)) jR) (c := own y6.1 t1 (tv t1 y6.2.1 y6.2.2)) jR) (c := pt b19 [.int .u8 t1.op, .string (str t1.name), .slice y6.2.1 t1.kids.length y6.2.2, .int .u8 t2.op, .string (str t2.name), .slice y12.2.1 t2.kids.length y12.2.2, .int .u8 t3.op, .string (str t3.name), .slice y18.2.1 t3.kids.length y18.2.2] 36) jR)
      exact ⟨(F, _, _), rfl, h.two2⟩
    ·clear hT
     have hT := fun w hp => must_c bp text x3 [58] a3 g3.2 hmax w hp
     rw [ht] at hT
     refine jN 4 ?_
     refine WL.call1P (bs := pcell text a3 x3) F.fun54 (fun d h => by cases h; rfl) rfl jR (fun w hS => hT w (hS.heap jM)) (fun cs => ?_)
     refine jN 1 ?_
     refine WQ.panicked (fun w hS => ?_)
     exact ⟨rfl, _, (St.pick hS (c := pt bp cs 72) jR).one1⟩
  ·have hT := fun w hp => takes_c bp text x1 [63] a1 g1.2 hmax w hp
   rw [ht] at hT
   refine jN 4 ?_
   refine WL.call1P (bs := pcell text a1 x1) F.fun53 (fun d h => by cases h; rfl) rfl jR (fun w hS => hT w (hS.heap jM)) (fun cs => ?_)
   refine jN 2 ?_
   refine WQ.panicked (fun w hS => ?_)
   exact ⟨rfl, _, (St.pick hS (c := pt bp cs 72) jR).one1⟩

theorem least_c (bp : Nat) (text : List UInt8) (hmax : text.length ≤ 140737488355328) (n : Nat) (hch : PC bp text 31 [pp bp] .choice n) :
  PC bp text 112 [pp bp] .least (n + 1) := by
 intro a x r w hle hr hp
 simp only [Fm.parse] at hr
 refine enter Tryz.func112 rfl Tryz.ntmps112 rfl (St.init1 hp) ?_
 refine jN 3 ?_
 refine WL.alloc F.zero36 rfl (fun b2 => ?_)
 refine jN 19 ?_
 rcases Fm.bindT_ok hr with ⟨ht, hr2⟩ | ⟨a2, x2, ht, hr2⟩ | ⟨a2, ht, rfl⟩
 ·have hT := fun w hp => takes_c bp text x [40] a hle hmax w hp
  rw [ht] at hT
  refine jN 4 ?_
  refine WL.call1S (bs := pcell text a x) (bs' := pcell text a x) F.fun53 rfl rfl jR (fun w hS => hT w (hS.heap jM)) ?_
  refine jN 13 ?_
  refine WA.splitB (i := 20) rfl (fun h20 => ?_) (fun h20 => ?_)
  ·have hx : x = [] := by simpa using h20
   have hnl : Fm.noLeaf x = true := by rw [hx]; rfl
   refine jN 27 ?_
   refine WL.makeIface F.conc68 rfl rfl ?_
   refine jN 1 ?_
   refine WL.panic rfl ?_
   refine jN 2 ?_
   rw [if_pos hnl] at hr2
   injection hr2 with hr2
   subst hr2
   refine WQ.panicked (fun w hS => ?_)
   exact ⟨rfl, _, (St.pick hS (c := pt bp (pcell text a x) 72) jR).one1⟩
  ·have hx : x ≠ [] := by simpa using h20
   obtain ⟨c, hc⟩ : ∃ c, x[0]? = some c := by cases x with | nil => exact absurd rfl hx | cons c r => exact ⟨c, rfl⟩
   have hnl0 : Fm.noLeaf x = !Fm.inWordB c := by cases x with | nil => cases hc | cons d r => injection hc with hc; rw [← hc]; rfl
   refine jN 5 ?_
   refine WL.indexS (i := 0) F.und9 rfl rfl rfl hc ?_
   refine jN 2 ?_
   refine WL.callV F.fun50 rfl rfl (fun w _ => inWord_c c w) ?_
   refine jN 9 ?_
   refine WC.cond rfl (fun h17 => ?_) (fun h17 => ?_)
   ·have hnl : Fm.noLeaf x = true := by first | assumption | (rw [hnl0]; exact h17)
    refine jN 12 ?_
    refine WL.makeIface F.conc68 rfl rfl ?_
    refine jN 1 ?_
    refine WL.panic rfl ?_
    refine jN 2 ?_
    rw [if_pos hnl] at hr2
    injection hr2 with hr2
    subst hr2
    refine WQ.panicked (fun w hS => ?_)
    exact ⟨rfl, _, (St.pick hS (c := pt bp (pcell text a x) 72) jR).one1⟩
   ·have hnl : Fm.noLeaf x = false := by first | assumption | (rw [hnl0]; exact h17)
    simp only [hnl, Bool.false_eq_true, if_false] at hr2
    refine jN 4 ?_
    rcases hn : Fm.next text a x with ⟨a1, x1⟩ | a1
    ·have hN := fun w hp => next_c bp text x a hle hmax w hp
     rw [hn] at hN hr2
     injection hr2 with hr2
     subst hr2
     refine jN 4 ?_
     refine WL.call1S (bs := pcell text a x) (bs' := pcell text a1 x1) F.fun30 rfl rfl jR (fun w hS => hN w (hS.heap jM)) ?_
     refine jN 18 ?_
     refine WC.cond rfl (fun h35 => ?_) (fun h35 => ?_)
     ·have hx1 : x = [48] := by simpa using h35
      refine jN 3 ?_
      refine WL.callV F.fun55 rfl rfl (fun w _ => node_c _ _ _ _ w) ?_
      refine jN 7 ?_
      refine WQ.ret (rs := [.cell 2 36]) rfl (.cellN F.agg36 rfl jM rfl .nil) (fun w hS => ?_)
      have h0 := St.node0 1 [] (St.pick hS (c := pt bp (pcell text a1 x1) 72) jR)
      rw [show Fm.leaf x = .mk 1 [] [] by first | simp [Fm.leaf, hx1, hx2] | simp [Fm.leaf, hx1]]
      exact ⟨([], none, 0), rfl, h0.two2⟩
     ·have hx1 : x ≠ [48] := by simpa using h35
      refine jN 8 ?_
      refine WC.cond rfl (fun h38 => ?_) (fun h38 => ?_)
      ·have hx2 : x = [49] := by simpa using h38
       refine jN 3 ?_
       refine WL.callV F.fun55 rfl rfl (fun w _ => node_c _ _ _ _ w) ?_
       refine jN 7 ?_
       refine WQ.ret (rs := [.cell 2 36]) rfl (.cellN F.agg36 rfl jM rfl .nil) (fun w hS => ?_)
       have h0 := St.node0 2 [] (St.pick hS (c := pt bp (pcell text a1 x1) 72) jR)
       rw [show Fm.leaf x = .mk 2 [] [] by first | simp [Fm.leaf, hx1, hx2] | simp [Fm.leaf, hx1]]
       exact ⟨([], none, 0), rfl, h0.two2⟩
      ·have hx2 : x ≠ [49] := by simpa using h38
       refine jN 14 ?_
       refine WQ.ret (rs := [.cell 2 36]) rfl (.cellN F.agg36 rfl jM rfl .nil) (fun w hS => ?_)
       have h0 := St.node0 3 x (St.pick hS (c := pt bp (pcell text a1 x1) 72) jR)
       rw [show Fm.leaf x = .mk 3 x [] by first | simp [Fm.leaf, hx1, hx2] | simp [Fm.leaf, hx1]]
       exact ⟨([], none, 0), rfl, h0.two2⟩
    ·have hN := fun w hp => next_c bp text x a hle hmax w hp
     rw [hn] at hN hr2
     injection hr2 with hr2
     subst hr2
     refine jN 4 ?_
     refine WL.call1P (bs := pcell text a x) F.fun30 (fun d h => by cases h; rfl) rfl jR (fun w hS => hN w (hS.heap jM)) (fun cs => ?_)
     refine jN 1 ?_
     refine WQ.panicked (fun w hS => ?_)
     exact ⟨rfl, _, (St.pick hS (c := pt bp cs 72) jR).one1⟩
 ·have hT := fun w hp => takes_c bp text x [40] a hle hmax w hp
  rw [ht] at hT
  have g2 := Fm.takes_le hle ht
  refine jN 4 ?_
  refine WL.call1S (bs := pcell text a x) (bs' := pcell text a2 x2) F.fun53 rfl rfl jR (fun w hS => hT w (hS.heap jM)) ?_
  refine jN 6 ?_
  rcases Fm.bindP_ok hr2 with ⟨a3, h3, rfl⟩ | ⟨t2, a3, x3, h3, hr3⟩
  ·have hM := fun w hp => hch _ _ _ w g2.2 h3 hp
   refine jN 4 ?_
   refine WL.call1P (bs := pcell text a2 x2) F.fun31 (fun d h => by cases h; rfl) rfl jR (fun w hS => hM w (hS.heap jM)) (fun cs => ?_)
   refine jN 3 ?_
   refine WQ.panicked (fun w hS => ?_)
   exact ⟨rfl, _, (St.pick hS (c := pt bp cs 72) jR).one1⟩
  ·have hM := fun w hp => hch _ _ _ w g2.2 h3 hp
   have g3 := Fm.parse_le _ _ _ _ _ _ _ g2.2 h3
   refine jN 4 ?_
   refine WL.call1A (res := fun y : List Nat × Option Addr × Nat => tv t2 y.2.1 y.2.2) (c1 := fun y : List Nat × Option Addr × Nat => own y.1 t2 (tv t2 y.2.1 y.2.2)) (c2 := fun _ => pt bp (pcell text a3 x3) 72) (bs := pcell text a2 x2) F.fun31 rfl rfl jR (fun w hS => hM w (hS.heap jM)) (fun y13 => ?_)
   refine jN 1 ?_
   refine WL.alloc F.zero36 rfl (fun b4 => ?_)
   refine jN 5 ?_
   rcases Fm.bindT_ok hr3 with ⟨ht, hr4⟩ | ⟨a4, x4, ht, hr4⟩ | ⟨a4, ht, rfl⟩
   ·clear hT
    have hT := fun w hp => must_c bp text x3 [41] a3 g3.2 hmax w hp
    rw [ht] at hT
    injection hr4 with hr4
    subst hr4
    refine jN 4 ?_
    refine WL.call1P (bs := pcell text a3 x3) F.fun54 (fun d h => by cases h; rfl) rfl jR (fun w hS => hT w (hS.heap jM)) (fun cs => ?_)
    refine jN 3 ?_
    refine WQ.panicked (fun w hS => ?_)
    exact ⟨rfl, _, (St.pick hS (c := pt bp cs 72) jR).one1⟩
   ·clear hT
    have hT := fun w hp => must_c bp text x3 [41] a3 g3.2 hmax w hp
    rw [ht] at hT
    injection hr4 with hr4
    subst hr4
    refine jN 4 ?_
    refine WL.call1S (bs := pcell text a3 x3) (bs' := pcell text a4 x4) F.fun54 rfl rfl jR (fun w hS => hT w (hS.heap jM)) ?_
    refine jN 13 ?_
    refine WQ.ret (rs := [.cell 2 36]) rfl (.cellN F.agg36 rfl jM rfl .nil) (fun w hS => ?_)
    exact ⟨y13, rfl, (St.pick (St.pick hS (c := pt bp (pcell text a4 x4) 72) jR) (c := own y13.1 t2 (tv t2 y13.2.1 y13.2.2)) jR).two2⟩
   ·clear hT
    have hT := fun w hp => must_c bp text x3 [41] a3 g3.2 hmax w hp
    rw [ht] at hT
    refine jN 4 ?_
    refine WL.call1P (bs := pcell text a3 x3) F.fun54 (fun d h => by cases h; rfl) rfl jR (fun w hS => hT w (hS.heap jM)) (fun cs => ?_)
    refine jN 3 ?_
    refine WQ.panicked (fun w hS => ?_)
    exact ⟨rfl, _, (St.pick hS (c := pt bp cs 72) jR).one1⟩
 ·have hT := fun w hp => takes_c bp text x [40] a hle hmax w hp
  rw [ht] at hT
  refine jN 4 ?_
  refine WL.call1P (bs := pcell text a x) F.fun53 (fun d h => by cases h; rfl) rfl jR (fun w hS => hT w (hS.heap jM)) (fun cs => ?_)
  refine jN 3 ?_
  refine WQ.panicked (fun w hS => ?_)
  exact ⟨rfl, _, (St.pick hS (c := pt bp cs 72) jR).one1⟩

end Go.Proofs.YtkgllhkhdjodeaaGreatDoor

namespace Go.Proofs.YtkgllhkhdjodeaaGreatDoor
open Go Go.Eng Go.Proofs
def nots : Nat → Tree → Tree
 | 0, t => t
 | k + 1, t => .mk 4 [] [nots k t]
theorem nots_in : ∀ (k : Nat) (t : Tree), nots k (.mk 4 [] [t]) = nots (k + 1) t
 | 0, _ => rfl
 | k + 1, t => by rw [nots, nots_in k t]; rfl
def wrapR (k : Nat) : Fm.PR → Fm.PR
 | .ok t a x => .ok (nots k t) a x
 | .bad a => .bad a
theorem wrapR_step {text : List UInt8} {m a k : Nat} {x : List UInt8} {rk r : Fm.PR} (h : Fm.bindP (Fm.parse text m .not a x) (fun t a x => some (.ok (.mk 4 [] [t]) a x)) = some rk) (hr : r = wrapR k rk) :
  ∃ rk', Fm.parse text m .not a x = some rk' ∧ r = wrapR (k + 1) rk' := by
 rcases Fm.bindP_ok h with ⟨b, h1, rfl⟩ | ⟨t, b, y, h1, h2⟩
 ·exact ⟨_, h1, hr⟩
 ·injection h2 with h2
  subst h2
  exact ⟨_, h1, by rw [hr]; simp [wrapR, nots_in]⟩
theorem takes_word {text wd s x : List UInt8} {at_ a : Nat} (h : Fm.takes text at_ wd s = .yes a x) : wd = s := by
 unfold Fm.takes at h
 split at h
 ·assumption
 ·cases h

theorem not_c (bp : Nat) (text : List UInt8) (hmax : text.length ≤ 140737488355328) (n : Nat) (hleast : ∀ m, m ≤ n → PC bp text 112 [pp bp] .least m) :
  PC bp text 104 [pp bp] .not (n + 1) := by
 intro a x r w hle hr hp
 refine enter Tryz.func104 rfl Tryz.ntmps104 rfl (St.init1 hp) ?_
 refine jN 3 ?_
 refine WL.alloc F.zero36 rfl (fun b2 => ?_)
 refine jN 10 ?_
 refine WC.chunks (fun w hS => (St.pick hS (c := pt bp (pcell text a x) 72) jR)) ?_
 refine WC.loop (α := Nat × Nat × Nat × List UInt8) (fun g => g.1 ≤ g.2.2.1 ∧ g.2.1 ≤ n + 1 ∧ g.2.2.1 + g.2.2.2.length ≤ text.length ∧ ∃ rk, Fm.parse text g.2.1 .not g.2.2.1 g.2.2.2 = some rk ∧ r = wrapR g.1 rk) (fun g => [(0, pp bp), (2, pp b2), (3, .int .i64 (g.1 : Int))]) (fun g => [pt bp (pcell text g.2.2.1 g.2.2.2) 72, pt b2 [Value.int .u8 0, .string (str []), .slice none 0 0] 36]) (fun g => g.2.1) ((0, n + 1, a, x)) ?_ ?_ ?_ ?_
 ·exact ⟨Nat.zero_le _, Nat.le_refl _, hle, r, hr, by cases r <;> rfl⟩
 ·exact ⟨rfl, rfl, rfl, trivial⟩
 ·rfl
 rintro ⟨k, m, ak, xk⟩ ⟨hk, hm, hle2, rk, hrk, hrw⟩
 dsimp only at hk hm hle2 hrk hrw
 show WC _ _ _ _ _ _ _ [(0, pp bp), (2, pp b2), (3, .int .i64 (k : Int))] [pt bp (pcell text ak xk) 72, pt b2 [Value.int .u8 0, .string (str []), .slice none 0 0] 36]
 obtain ⟨m, rfl⟩ : ∃ m2, m = m2 + 1 := by cases m with | zero => simp [Fm.parse] at hrk | succ m => exact ⟨m, rfl⟩
 simp only [Fm.parse] at hrk
 refine jN 2 ?_
 rcases Fm.bindT_ok hrk with ⟨ht, hrk2⟩ | ⟨a2, x2, ht, hrk2⟩ | ⟨a2, ht, rfl⟩
 ·have hT := fun w hp => takes_c bp text xk [33] ak hle2 hmax w hp
  rw [ht] at hT
  refine jN 4 ?_
  refine WL.call1S (bs := pcell text ak xk) (bs' := pcell text ak xk) F.fun53 rfl rfl jR (fun w hS => hT w (hS.heap jM)) ?_
  refine jN 9 ?_
  rcases rk with ⟨t, a1, x1⟩ | a1
  ·have hN := fun w hp => hleast m (by omega) _ _ _ w hle2 hrk2 hp
   refine jN 4 ?_
   refine WL.call1A (res := fun y : List Nat × Option Addr × Nat => tv t y.2.1 y.2.2) (c1 := fun y : List Nat × Option Addr × Nat => own y.1 t (tv t y.2.1 y.2.2)) (c2 := fun _ => pt bp (pcell text a1 x1) 72) (bs := pcell text ak xk) F.fun112 rfl rfl jR (fun w hS => hN w (hS.heap jM)) (fun y10 => ?_)
   refine jN 1 ?_
   refine WL.alloc F.zero36 rfl (fun b4 => ?_)
   refine jN 14 ?_
   refine WC.loop (α := Nat × (List Nat × Option Addr × Nat)) (fun g => g.1 ≤ k) (fun g => [(2, pp b2), (4, pp b4), (11, .int .i64 (k : Int)), (12, .int .i64 (g.1 : Int))]) (fun g => [pt b4 [.int .u8 (nots g.1 t).op, .string (str (nots g.1 t).name), .slice g.2.2.1 (nots g.1 t).kids.length g.2.2.2] 36, own g.2.1 (nots g.1 t) (tv (nots g.1 t) g.2.2.1 g.2.2.2), pt bp (pcell text a1 x1) 72, pt b2 [Value.int .u8 0, .string (str []), .slice none 0 0] 36]) (fun g => k - g.1) ((0, y10)) ?_ ?_ ?_ ?_
   ·exact Nat.zero_le _
   ·exact ⟨rfl, rfl, rfl, rfl, trivial⟩
   ·rfl
   rintro ⟨i, y⟩ hi
   dsimp only at hi
   show WC _ _ _ _ _ _ _ [(2, pp b2), (4, pp b4), (11, .int .i64 (k : Int)), (12, .int .i64 (i : Int))] [pt b4 [.int .u8 (nots i t).op, .string (str (nots i t).name), .slice y.2.1 (nots i t).kids.length y.2.2] 36, own y.1 (nots i t) (tv (nots i t) y.2.1 y.2.2), pt bp (pcell text a1 x1) 72, pt b2 [Value.int .u8 0, .string (str []), .slice none 0 0] 36]
   refine jN 7 ?_
   refine WC.cond rfl (fun h13 => ?_) (fun h13 => ?_)
   ·have hik : i < k := by simpa using h13
    refine jN 8 ?_
    refine WL.buildSlice F.sl34 F.ez34 rfl rfl rfl rfl jB rfl (fun b15 => ?_)
    refine jN 1 ?_
    refine WL.callV F.fun55 rfl rfl (fun w _ => node_c _ _ _ _ w) ?_
    refine jN 2 ?_
    refine WA.chunksE (C' := fun F => [pt b4 [.int .u8 4, .string (str []), .slice (some ⟨b15, 0, none⟩) 1 1] 36, own F (nots (i + 1) t) (.agg [Value.int .u8 4, .string (str []), .slice (some ⟨b15, 0, none⟩) 1 1].toArray), pt bp (pcell text a1 x1) 72, pt b2 [Value.int .u8 0, .string (str []), .slice none 0 0] 36]) (fun w hS => ?_) (fun F => ?_)
    ·obtain ⟨F, h⟩ := St.node1 4 (St.pick (St.pick hS (c := own y.1 (nots i t) (tv (nots i t) y.2.1 y.2.2)) jR) (c := pt b15 [.int .u8 (nots i t).op, .string (str (nots i t).name), .slice y.2.1 (nots i t).kids.length y.2.2] 36) jR)
     exact ⟨F, (St.pick h (c := pt b4 [.int .u8 4, .string (str []), .slice (some ⟨b15, 0, none⟩) 1 1] 36) jR)⟩
    refine jN 9 ?_
    refine WQ.back ((i + 1, (F, some ⟨b15, 0, none⟩, 1))) ?_ ?_ ?_ ?_
    ·exact (by show i + 1 ≤ k; omega)
    ·(show k - (i + 1) < k - i; omega)
    ·exact ⟨rfl, rfl, rfl, rfl, trivial⟩
    ·rfl
   ·have hik : i = k := by simp at h13; omega
    subst hik
    refine jN 14 ?_
    subst hrw
    refine WQ.ret (rs := [.cell 2 36]) rfl (.cellN F.agg36 rfl jM rfl .nil) (fun w hS => ?_)
    exact ⟨y, rfl, (St.pick (St.pick hS (c := pt bp (pcell text a1 x1) 72) jR) (c := own y.1 (nots i t) (tv (nots i t) y.2.1 y.2.2)) jR).two2⟩
  ·have hN := fun w hp => hleast m (by omega) _ _ _ w hle2 hrk2 hp
   refine jN 4 ?_
   refine WL.call1P (bs := pcell text ak xk) F.fun112 (fun d h => by cases h; rfl) rfl jR (fun w hS => hN w (hS.heap jM)) (fun cs => ?_)
   refine jN 1 ?_
   subst hrw
   refine WQ.panicked (fun w hS => ?_)
   exact ⟨rfl, _, (St.pick hS (c := pt bp cs 72) jR).one1⟩
 ·have hT := fun w hp => takes_c bp text xk [33] ak hle2 hmax w hp
  rw [ht] at hT
  have g2 := Fm.takes_le hle2 ht
  refine jN 4 ?_
  refine WL.call1S (bs := pcell text ak xk) (bs' := pcell text a2 x2) F.fun53 rfl rfl jR (fun w hS => hT w (hS.heap jM)) ?_
  refine jN 15 ?_
  refine WQ.back ((k + 1, m, a2, x2)) ?_ ?_ ?_ ?_
  ·exact ⟨by have := takes_word ht; rw [this] at g2; simp at g2; show k + 1 ≤ a2; omega, by show m ≤ n + 1; omega, g2.2, wrapR_step hrk2 hrw⟩
  ·exact Nat.lt_succ_self m
  ·exact ⟨rfl, rfl, rfl, trivial⟩
  ·rfl
 ·have hT := fun w hp => takes_c bp text xk [33] ak hle2 hmax w hp
  rw [ht] at hT
  refine jN 4 ?_
  refine WL.call1P (bs := pcell text ak xk) F.fun53 (fun d h => by cases h; rfl) rfl jR (fun w hS => hT w (hS.heap jM)) (fun cs => ?_)
  refine jN 5 ?_
  subst hrw
  refine WQ.panicked (fun w hS => ?_)
  exact ⟨rfl, _, (St.pick hS (c := pt bp cs 72) jR).one1⟩

theorem _root_.Go.Eng.St.lone {w0 w : World} {O : List Nat} {C : List Chunk} {ad : Option Addr} {n cap : Nat} {e : TypeId} {F : List Nat} {t : Tree} {vs : List Value} (hn : n = 1) (h : St w0 O (rowc (.slice ad n cap) n e 3 (flat vs) :: ownL F [t] vs :: C) w) :
  ∃ g a c, ad = some ⟨g, 0, none⟩ ∧ vs = [tv t a c] := by
 have hr : w.ownsRow 0 e 3 (.slice ad n cap) n (flat vs) := h.ok _ (List.mem_cons_self ..)
 have hl : F.Nodup ∧ rdL w [t] F vs := h.ok _ (List.mem_cons_of_mem _ (List.mem_cons_self ..))
 have hl2 := hl.2
 simp only [rdL] at hl2
 obtain ⟨F1, F2, v, vs', hF, hvs, h1, h2, h3⟩ := hl2
 obtain ⟨a, m, c, hv, hm⟩ := rdT_val h1
 subst hm; subst hv; subst h3
 rcases hr.2 with ⟨_, h0⟩ | ⟨g, cp, cur, hg, _⟩
 ·omega
 ·injection hg with ha _ _
  exact ⟨g, a, c, ha, hvs⟩
theorem _root_.Go.Eng.St.ownOne {w0 w : World} {O : List Nat} {C : List Chunk} {F : List Nat} {t : Tree} {v : Value} (h : St w0 O (ownL F [t] [v] :: C) w) : St w0 O (own F t v :: C) w :=
 h.swap (fun ⟨h1, h2⟩ => ⟨h1, by
  simp only [rdL] at h2
  obtain ⟨F1, F2, v', vs', hF, hvs, h3, h4, h5⟩ := h2
  injection hvs with e1 e2
  subst e1; subst h4
  rw [hF, List.append_nil]; exact h3⟩) (fun k hk => hk)
structure RG where
 m : Nat
 acc : List Tree
 F : List Nat
 vs : List Value
 len : Nat
 cells : List Value
 ad : Option Addr
 cap : Nat
 ak : Nat
 xk : List UInt8
theorem mkRow_ne {i : Nat} {acc : List Tree} (h : acc.length ≠ 1) : Fm.mkRow i acc = .mk (Fm.rowOp i) [] acc := by
 rcases acc with _ | ⟨a, _ | ⟨b, r⟩⟩
 ·rfl
 ·simp at h
 ·rfl

theorem next_le3 {ak xl tl : Nat} (h : ak + xl ≤ tl) : ak ≤ tl := by omega
theorem row_c (bp : Nat) (text : List UInt8) (hmax2 : text.length ≤ 1099511627776) (n i : Nat) (hi : i ≤ 3) (hnot : PC bp text 104 [pp bp] .not n) (hrow : i < 3 → ∀ m, m ≤ n → PC bp text 86 [pp bp, .int .i64 ((i : Int) + 1)] (.row (i + 1)) m) :
  PC bp text 86 [pp bp, .int .i64 (i : Int)] (.row i) (n + 1) := by
 intro a x r w hle hr hp
 have hmax : text.length ≤ 140737488355328 := by omega
 refine enter Tryz.func86 rfl Tryz.ntmps86 rfl (St.init1 hp) ?_
 refine jN 3 ?_
 refine WL.alloc F.zero36 rfl (fun b4 => ?_)
 refine jN 11 ?_
 refine WL.buildA F.arT137 rfl jB rfl ?_
 refine jN 1 ?_
 refine WL.alloc F.zero137 rfl (fun b5 => ?_)
 refine jN 13 ?_
 refine WC.cond rfl (fun h12 => ?_) (fun h12 => ?_)
 ·have hi3 : i = 3 := by simp at h12; omega
  subst hi3
  simp only [Fm.parse, Nat.le_refl, if_true] at hr
  refine jN 1 ?_
  rcases r with ⟨t1, a1, x1⟩ | a1
  ·have hN := fun w hp => hnot _ _ _ w hle hr hp
   refine jN 4 ?_
   refine WL.call1A (res := fun y : List Nat × Option Addr × Nat => tv t1 y.2.1 y.2.2) (c1 := fun y : List Nat × Option Addr × Nat => own y.1 t1 (tv t1 y.2.1 y.2.2)) (c2 := fun _ => pt bp (pcell text a1 x1) 72) (bs := pcell text a x) F.fun104 rfl rfl jR (fun w hS => hN w (hS.heap jM)) (fun y14 => ?_)
   refine jN 6 ?_
   refine WQ.ret (rs := [.cell 4 36]) rfl (.cellN F.agg36 rfl jM rfl .nil) (fun w hS => ?_)
   exact ⟨y14, rfl, (St.pick (St.pick hS (c := pt bp (pcell text a1 x1) 72) jR) (c := own y14.1 t1 (tv t1 y14.2.1 y14.2.2)) jR).two2⟩
  ·have hN := fun w hp => hnot _ _ _ w hle hr hp
   refine jN 4 ?_
   refine WL.call1P (bs := pcell text a x) F.fun104 (fun d h => by cases h; rfl) rfl jR (fun w hS => hN w (hS.heap jM)) (fun cs => ?_)
   refine jN 2 ?_
   refine WQ.panicked (fun w hS => ?_)
   exact ⟨rfl, _, (St.pick hS (c := pt bp cs 72) jR).one1⟩
 ·have hi3 : i < 3 := by simp at h12; omega
  simp only [Fm.parse, show ¬ 3 ≤ i by omega, if_false] at hr
  refine jN 3 ?_
  rcases Fm.bindP_ok hr with ⟨a1, h1, rfl⟩ | ⟨t1, a1, x1, h1, hr1⟩
  ·have hN := fun w hp => hrow hi3 n (Nat.le_refl _) _ _ _ w hle h1 hp
   refine jN 8 ?_
   refine WL.call1P (bs := pcell text a x) F.fun86 (fun d h => by cases h; rfl) rfl jR (fun w hS => hN w (hS.heap jM)) (fun cs => ?_)
   refine jN 1 ?_
   refine WQ.panicked (fun w hS => ?_)
   exact ⟨rfl, _, (St.pick hS (c := pt bp cs 72) jR).one1⟩
  ·have hN := fun w hp => hrow hi3 n (Nat.le_refl _) _ _ _ w hle h1 hp
   have g1 := Fm.parse_le _ _ _ _ _ _ _ hle h1
   refine jN 8 ?_
   refine WL.call1A (res := fun y : List Nat × Option Addr × Nat => tv t1 y.2.1 y.2.2) (c1 := fun y : List Nat × Option Addr × Nat => own y.1 t1 (tv t1 y.2.1 y.2.2)) (c2 := fun _ => pt bp (pcell text a1 x1) 72) (bs := pcell text a x) F.fun86 rfl rfl jR (fun w hS => hN w (hS.heap jM)) (fun y18 => ?_)
   refine jN 1 ?_
   refine WL.buildSlice F.sl34 F.ez34 rfl rfl rfl rfl jB rfl (fun b19 => ?_)
   refine jN 6 ?_
   refine WC.chunks (C' := [pt bp (pcell text a1 x1) 72, rowc (.slice (some ⟨b19, 0, none⟩) 1 1) 1 36 3 (flat [tv t1 y18.2.1 y18.2.2]), ownL ([] ++ y18.1) ([] ++ [t1]) ([] ++ [tv t1 y18.2.1 y18.2.2]), pt b5 [Value.string (str [124]), .int .u8 6, .string (str [94]), .int .u8 7, .string (str [38]), .int .u8 5] 137, pt b4 [Value.int .u8 0, .string (str []), .slice none 0 0] 36]) (fun w hS => ?_) ?_
   ·have h1 := St.rowOf (n := 1) (sz := 3) (St.pick hS (c := pt b19 [Value.int .u8 t1.op, .string (str t1.name), .slice y18.2.1 t1.kids.length y18.2.2] 36) jR) rfl (by decide)
    have h2 := St.ownSnoc (St.ownNil (St.pick h1 (c := own y18.1 t1 (tv t1 y18.2.1 y18.2.2)) jR))
    exact (St.pick (St.pick h2 (c := rowc (.slice (some ⟨b19, 0, none⟩) 1 1) 1 36 3 (flat [tv t1 y18.2.1 y18.2.2])) jR) (c := pt bp (pcell text a1 x1) 72) jR)
   refine WC.loop (α := RG) (fun g => g.m ≤ n ∧ g.acc.length ≤ g.ak + 1 ∧ g.len = g.acc.length ∧ g.cells = flat g.vs ∧ g.ak + g.xk.length ≤ text.length ∧ Fm.parse text g.m (.rest i g.acc) g.ak g.xk = some r) (fun g => [(0, pp bp), (1, .int .i64 (i : Int)), (4, pp b4), (5, pp b5), (6, .slice g.ad g.len g.cap)]) (fun g => [pt bp (pcell text g.ak g.xk) 72, rowc (.slice g.ad g.len g.cap) g.len 36 3 g.cells, ownL g.F g.acc g.vs, pt b5 [Value.string (str [124]), .int .u8 6, .string (str [94]), .int .u8 7, .string (str [38]), .int .u8 5] 137, pt b4 [Value.int .u8 0, .string (str []), .slice none 0 0] 36]) (fun g => g.m) (⟨n, [t1], y18.1, [tv t1 y18.2.1 y18.2.2], 1, flat [tv t1 y18.2.1 y18.2.2], some ⟨b19, 0, none⟩, 1, a1, x1⟩) ?_ ?_ ?_ ?_
   ·exact ⟨Nat.le_refl _, by simp, rfl, rfl, g1.2, hr1⟩
   ·exact ⟨rfl, rfl, rfl, rfl, rfl, trivial⟩
   ·rfl
   rintro ⟨m, acc, Fb, vs, len, cells, ad, cap, ak, xk⟩ ⟨hm, hac, hlen, hcs, hle2, hrk⟩
   dsimp only at hm hac hlen hcs hle2 hrk
   show WC _ _ _ _ _ _ _ [(0, pp bp), (1, .int .i64 (i : Int)), (4, pp b4), (5, pp b5), (6, .slice ad len cap)] [pt bp (pcell text ak xk) 72, rowc (.slice ad len cap) len 36 3 cells, ownL Fb acc vs, pt b5 [Value.string (str [124]), .int .u8 6, .string (str [94]), .int .u8 7, .string (str [38]), .int .u8 5] 137, pt b4 [Value.int .u8 0, .string (str []), .slice none 0 0] 36]
   obtain ⟨m, rfl⟩ : ∃ m2, m = m2 + 1 := by cases m with | zero => simp [Fm.parse] at hrk | succ m => exact ⟨m, rfl⟩
   simp only [Fm.parse] at hrk
   have hsg : [Value.string (str [124]), .int .u8 6, .string (str [94]), .int .u8 7, .string (str [38]), .int .u8 5][0 + i * 2 + 0]? = some (.string (str (Fm.rowSign i))) := by rcases (by omega : i = 0 ∨ i = 1 ∨ i = 2) with rfl | rfl | rfl <;> rfl
   have hop : [Value.string (str [124]), .int .u8 6, .string (str [94]), .int .u8 7, .string (str [38]), .int .u8 5][0 + i * 2 + 1]? = some (.int .u8 (Fm.rowOp i)) := by rcases (by omega : i = 0 ∨ i = 1 ∨ i = 2) with rfl | rfl | rfl <;> rfl
   refine jN 2 ?_
   rcases Fm.bindT_ok hrk with ⟨ht, hrk2⟩ | ⟨a2, x2, ht, hrk2⟩ | ⟨a2, ht, rfl⟩
   ·have hT := fun w hp => takes_c bp text xk (Fm.rowSign i) ak hle2 hmax w hp
    rw [ht] at hT
    refine jN 6 ?_
    refine WL.indexAddrA F.arT137 rfl rfl rfl hi3 ?_
    refine jN 1 ?_
    refine WL.fieldAddr F.fld136_0 rfl rfl ?_
    refine jN 1 ?_
    refine WL.loadP F.one9 rfl rfl jM hsg ?_
    refine jN 1 ?_
    refine WL.call1S (bs := pcell text ak xk) (bs' := pcell text ak xk) F.fun53 rfl rfl jR (fun w hS => hT w (hS.heap jM)) ?_
    refine jN 19 ?_
    refine WC.cond rfl (fun h35 => ?_) (fun h35 => ?_)
    ·have hl1 : len = 1 := by simp at h35; omega
     subst hcs
     obtain ⟨t1, rfl⟩ : ∃ t, acc = [t] := List.length_eq_one_iff.1 (by omega)
     injection hrk2 with hrk2
     subst hrk2
     refine WC.know (φ := ∃ g a c, ad = some ⟨g, 0, none⟩ ∧ vs = [tv t1 a c]) (fun w hS => St.lone hl1 (St.pick (St.pick hS (c := ownL Fb [t1] vs) jR) (c := rowc (.slice ad len cap) len 36 3 (flat vs)) jR)) (fun ⟨g, u, c, had, hvs⟩ => ?_)
     subst had; subst hvs
     refine jN 5 ?_
     refine WL.indexAddr (i := 0) F.sl34 rfl rfl rfl (by omega) ?_
     refine jN 1 ?_
     refine WL.loadN F.agg36 rfl rfl (vs := [Value.int .u8 t1.op, .string (str t1.name), .slice u t1.kids.length c]) rfl (fun w hS j v hv => ?_) ?_
     ·have hro : w.ownsRow 0 36 3 (.slice (some ⟨g, 0, none⟩) len cap) len (flat [tv t1 u c]) := hS.ok (rowc (.slice (some ⟨g, 0, none⟩) len cap) len 36 3 (flat [tv t1 u c])) jM
      have hq := hro.cells (g := g) rfl j v (by simpa [flat, tv, Value.cells] using hv)
      rw [add_blk] at hq
      simpa using hq
     refine jN 6 ?_
     refine WQ.ret (rs := [.cell 4 36]) rfl (.cellN F.agg36 rfl jM rfl .nil) (fun w hS => ?_)
     have h2 := St.ownOne (St.pick (St.pick hS (c := pt bp (pcell text ak xk) 72) jR) (c := ownL Fb [t1] [tv t1 u c]) jR)
     exact ⟨(Fb, u, c), rfl, h2.two2⟩
    ·have hl1 : acc.length ≠ 1 := by simp at h35; omega
     subst hcs
     rw [mkRow_ne hl1] at hrk2
     injection hrk2 with hrk2
     subst hrk2
     refine jN 7 ?_
     refine WL.indexAddrA F.arT137 rfl rfl rfl hi3 ?_
     refine jN 1 ?_
     refine WL.fieldAddr F.fld136_1 rfl rfl ?_
     refine jN 1 ?_
     refine WL.loadP F.one5 rfl rfl jM hop ?_
     refine jN 3 ?_
     refine WL.callV F.fun55 rfl rfl (fun w _ => node_c _ _ _ _ w) ?_
     refine jN 5 ?_
     refine WQ.ret (rs := [.cell 4 36]) rfl (.cellN F.agg36 rfl jM rfl .nil) (fun w hS => ?_)
     obtain ⟨F2, h2⟩ := St.ownNode (Fm.rowOp i) [] hlen (St.pick (St.pick (St.pick hS (c := pt bp (pcell text ak xk) 72) jR) (c := ownL Fb acc vs) jR) (c := rowc (.slice ad len cap) len 36 3 (flat vs)) jR)
     subst hlen
     exact ⟨(F2, ad, cap), rfl, h2.two2⟩
   ·have hT := fun w hp => takes_c bp text xk (Fm.rowSign i) ak hle2 hmax w hp
    rw [ht] at hT
    have g2 := Fm.takes_le hle2 ht
    refine jN 6 ?_
    refine WL.indexAddrA F.arT137 rfl rfl rfl hi3 ?_
    refine jN 1 ?_
    refine WL.fieldAddr F.fld136_0 rfl rfl ?_
    refine jN 1 ?_
    refine WL.loadP F.one9 rfl rfl jM hsg ?_
    refine jN 1 ?_
    refine WL.call1S (bs := pcell text ak xk) (bs' := pcell text a2 x2) F.fun53 rfl rfl jR (fun w hS => hT w (hS.heap jM)) ?_
    refine jN 6 ?_
    rcases Fm.bindP_ok hrk2 with ⟨a3, h3, rfl⟩ | ⟨t2, a3, x3, h3, hr3⟩
    ·have hM := fun w hp => hrow hi3 m (by omega) _ _ _ w g2.2 h3 hp
     refine jN 10 ?_
     refine WL.call1P (bs := pcell text a2 x2) F.fun86 (fun d h => by cases h; rfl) rfl jR (fun w hS => hM w (hS.heap jM)) (fun cs => ?_)
     refine jN 4 ?_
     refine WQ.panicked (fun w hS => ?_)
     exact ⟨rfl, _, (St.pick hS (c := pt bp cs 72) jR).one1⟩
    ·have hM := fun w hp => hrow hi3 m (by omega) _ _ _ w g2.2 h3 hp
     have g3 := Fm.parse_le _ _ _ _ _ _ _ g2.2 h3
     refine jN 10 ?_
     refine WL.call1A (res := fun y : List Nat × Option Addr × Nat => tv t2 y.2.1 y.2.2) (c1 := fun y : List Nat × Option Addr × Nat => own y.1 t2 (tv t2 y.2.1 y.2.2)) (c2 := fun _ => pt bp (pcell text a3 x3) 72) (bs := pcell text a2 x2) F.fun86 rfl rfl jR (fun w hS => hM w (hS.heap jM)) (fun y30 => ?_)
     refine jN 1 ?_
     refine WL.buildSlice F.sl34 F.ez34 rfl rfl rfl rfl jB rfl (fun b31 => ?_)
     refine jN 1 ?_
     refine WL.appendE (news := [Value.int .u8 t2.op, .string (str t2.name), .slice y30.2.1 t2.kids.length y30.2.2]) F.el34 rfl rfl rfl jR (fun w hS j u hu => by rw [Nat.zero_add]; exact hS.cell (cs := [Value.int .u8 t2.op, .string (str t2.name), .slice y30.2.1 t2.kids.length y30.2.2]) jM hu) rfl jO (Nat.le_trans (m := 1099511627800) (by have := next_le3 hle2; omega) (by decide)) (by have := next_le3 hle2; omega) (fun ad2 cap2 => ?_)
     refine jN 4 ?_
     refine WQ.chunks (C' := [pt bp (pcell text a3 x3) 72, rowc (.slice ad2 (len + 1) cap2) (len + 1) 36 3 (cells ++ [Value.int .u8 t2.op, .string (str t2.name), .slice y30.2.1 t2.kids.length y30.2.2]), ownL (Fb ++ y30.1) (acc ++ [t2]) (vs ++ [tv t2 y30.2.1 y30.2.2]), pt b5 [Value.string (str [124]), .int .u8 6, .string (str [94]), .int .u8 7, .string (str [38]), .int .u8 5] 137, pt b4 [Value.int .u8 0, .string (str []), .slice none 0 0] 36]) (fun w hS => ?_) ?_
     ·have h2 := St.ownSnoc (St.pick (St.pick hS (c := own y30.1 t2 (tv t2 y30.2.1 y30.2.2)) jR) (c := ownL Fb acc vs) jR)
      exact ((St.pick (St.pick (St.pick h2 (c := ownL (Fb ++ y30.1) (acc ++ [t2]) (vs ++ [tv t2 y30.2.1 y30.2.2])) jR) (c := rowc (.slice ad2 (len + 1) cap2) (len + 1) 36 3 (cells ++ [Value.int .u8 t2.op, .string (str t2.name), .slice y30.2.1 t2.kids.length y30.2.2])) jR) (c := pt bp (pcell text a3 x3) 72) jR)).sublist (by repeat (first | exact List.Sublist.refl _ | apply List.Sublist.cons_cons | apply List.Sublist.cons))
     refine WQ.back (⟨m, acc ++ [t2], Fb ++ y30.1, vs ++ [tv t2 y30.2.1 y30.2.2], len + 1, cells ++ [Value.int .u8 t2.op, .string (str t2.name), .slice y30.2.1 t2.kids.length y30.2.2], ad2, cap2, a3, x3⟩) ?_ ?_ ?_ ?_
     ·exact ⟨by show m ≤ n; omega, by have hw := takes_word ht; have hsl : (Fm.rowSign i).length = 1 := (by unfold Fm.rowSign; split; rfl; split <;> rfl); rw [hw, hsl] at g2; show (acc ++ [t2]).length ≤ a3 + 1; simp; omega, by show len + 1 = (acc ++ [t2]).length; simp [hlen], by show cells ++ _ = flat (vs ++ [_]); rw [hcs, flat_append]; simp [flat, tv, Value.cells], g3.2, hr3⟩
     ·exact Nat.lt_succ_self m
     ·exact ⟨rfl, rfl, rfl, rfl, rfl, trivial⟩
     ·rfl
   ·have hT := fun w hp => takes_c bp text xk (Fm.rowSign i) ak hle2 hmax w hp
    rw [ht] at hT
    refine jN 6 ?_
    refine WL.indexAddrA F.arT137 rfl rfl rfl hi3 ?_
    refine jN 1 ?_
    refine WL.fieldAddr F.fld136_0 rfl rfl ?_
    refine jN 1 ?_
    refine WL.loadP F.one9 rfl rfl jM hsg ?_
    refine jN 1 ?_
    refine WL.call1P (bs := pcell text ak xk) F.fun53 (fun d h => by cases h; rfl) rfl jR (fun w hS => hT w (hS.heap jM)) (fun cs => ?_)
    refine jN 5 ?_
    refine WQ.panicked (fun w hS => ?_)
    exact ⟨rfl, _, (St.pick hS (c := pt bp cs 72) jR).one1⟩

end Go.Proofs.YtkgllhkhdjodeaaGreatDoor

namespace Go.Proofs.YtkgllhkhdjodeaaGreatDoor
open Go Go.Eng Go.Proofs
theorem kids_c (op : Int) (w : World) : Pure Tryz.prog 87 [.int .u8 op] w (.tuple #[.int .i64 (Fm.kidsOf op).1, .bool (Fm.kidsOf op).2]) := by
 refine enter Tryz.func87 rfl Tryz.ntmps87 rfl (St.init _) ?_
 refine jN 25 ?_
 refine WC.splitB (i := 5) rfl (fun h5 => ?_) (fun h5 => ?_)
 ·refine jN 15 ?_
  exact WQ.ret (rs := [.tmp 2, .tmp 3]) rfl (.tmp rfl (.tmp rfl .nil)) (fun w hS => ⟨by simp_all [tup, Fm.kidsOf], hS⟩)
 ·refine jN 9 ?_
  refine WC.splitB (i := 5) rfl (fun h5 => ?_) (fun h5 => ?_)
  ·refine jN 15 ?_
   exact WQ.ret (rs := [.tmp 2, .tmp 3]) rfl (.tmp rfl (.tmp rfl .nil)) (fun w hS => ⟨by simp_all [tup, Fm.kidsOf], hS⟩)
  ·refine jN 8 ?_
   refine WC.splitB (i := 5) rfl (fun h5 => ?_) (fun h5 => ?_)
   ·refine jN 12 ?_
    exact WQ.ret (rs := [.tmp 2, .tmp 3]) rfl (.tmp rfl (.tmp rfl .nil)) (fun w hS => ⟨by simp_all [tup, Fm.kidsOf], hS⟩)
   ·refine jN 9 ?_
    refine WC.cond rfl (fun h9 => ?_) (fun h9 => ?_)
    ·refine jN 11 ?_
     exact WQ.ret (rs := [.tmp 2, .tmp 3]) rfl (.tmp rfl (.tmp rfl .nil)) (fun w hS => ⟨by simp_all [tup, Fm.kidsOf], hS⟩)
    ·refine jN 9 ?_
     refine WC.splitB (i := 11) rfl (fun h11 => ?_) (fun h11 => ?_)
     ·refine jN 15 ?_
      exact WQ.ret (rs := [.tmp 2, .tmp 3]) rfl (.tmp rfl (.tmp rfl .nil)) (fun w hS => ⟨by simp_all [tup, Fm.kidsOf], hS⟩)
     ·refine jN 9 ?_
      refine WC.splitB (i := 11) rfl (fun h11 => ?_) (fun h11 => ?_)
      ·refine jN 15 ?_
       exact WQ.ret (rs := [.tmp 2, .tmp 3]) rfl (.tmp rfl (.tmp rfl .nil)) (fun w hS => ⟨by simp_all [tup, Fm.kidsOf], hS⟩)
      ·refine jN 8 ?_
       refine WC.splitB (i := 11) rfl (fun h11 => ?_) (fun h11 => ?_)
       ·refine jN 12 ?_
        exact WQ.ret (rs := [.tmp 2, .tmp 3]) rfl (.tmp rfl (.tmp rfl .nil)) (fun w hS => ⟨by simp_all [tup, Fm.kidsOf], hS⟩)
       ·refine jN 10 ?_
        refine WC.splitB (i := 15) rfl (fun h15 => ?_) (fun h15 => ?_)
        ·refine jN 15 ?_
         exact WQ.ret (rs := [.tmp 2, .tmp 3]) rfl (.tmp rfl (.tmp rfl .nil)) (fun w hS => ⟨by simp_all [tup, Fm.kidsOf], hS⟩)
        ·refine jN 8 ?_
         refine WC.splitB (i := 15) rfl (fun h15 => ?_) (fun h15 => ?_)
         ·refine jN 12 ?_
          exact WQ.ret (rs := [.tmp 2, .tmp 3]) rfl (.tmp rfl (.tmp rfl .nil)) (fun w hS => ⟨by simp_all [tup, Fm.kidsOf], hS⟩)
         ·refine jN 9 ?_
          refine WC.cond rfl (fun h18 => ?_) (fun h18 => ?_)
          ·refine jN 11 ?_
           exact WQ.ret (rs := [.tmp 2, .tmp 3]) rfl (.tmp rfl (.tmp rfl .nil)) (fun w hS => ⟨by simp_all [tup, Fm.kidsOf], hS⟩)
          ·refine jN 12 ?_
           exact WQ.ret (rs := [.tmp 2, .tmp 3]) rfl (.tmp rfl (.tmp rfl .nil)) (fun w hS => ⟨by simp_all [tup, Fm.kidsOf], hS⟩)

theorem right_c (t : Tree) (a : Option Addr) (c : Nat) (w : World) : Pure Tryz.prog 71 [tv t a c] w (.bool (Fm.rightB t)) := by
 refine enter Tryz.func71 rfl Tryz.ntmps71 rfl (St.init _) ?_
 refine jN 3 ?_
 refine WL.boxN rfl rfl (fun b1 => ?_)
 refine jN 11 ?_
 refine WL.callV F.fun87 rfl rfl (fun w _ => kids_c _ w) ?_
 refine jN 15 ?_
 refine WC.cutF [(11, .bool (Fm.kidsBad t.op t.kids.length)), (1, pp b1)] (fun Q' hQ => ?_) ?_
 ·refine jN 7 ?_
  refine WA.splitB (i := 14) rfl (fun h14 => ?_) (fun h14 => ?_)
  ·refine jN 43 ?_
   refine WQ.byCut hQ (subF_bool ?_ ⟨rfl, trivial⟩ rfl)
   first | (rw [Fm.kidsBad, h14, h17]; simp [bne]; done) | (simp_all [Fm.kidsBad]; done)
  ·refine jN 9 ?_
   refine WA.splitB (i := 17) rfl (fun h17 => ?_) (fun h17 => ?_)
   ·refine jN 19 ?_
    refine WA.splitB (i := 24) rfl (fun h24 => ?_) (fun h24 => ?_)
    ·refine jN 23 ?_
     refine WQ.byCut hQ (subF_bool ?_ ⟨rfl, trivial⟩ rfl)
     first | (rw [Fm.kidsBad, h14, h17]; simp [bne]; done) | (simp_all [Fm.kidsBad]; done)
    ·refine jN 9 ?_
     refine WA.splitB (i := 27) rfl (fun h27 => ?_) (fun h27 => ?_)
     ·refine jN 23 ?_
      refine WQ.byCut hQ (subF_bool ?_ ⟨rfl, trivial⟩ rfl)
      first | (rw [Fm.kidsBad, h14, h17]; simp [bne]; done) | (simp_all [Fm.kidsBad]; done)
     ·refine jN 18 ?_
      refine WQ.byCut hQ (subF_bool ?_ ⟨rfl, trivial⟩ rfl)
      first | (rw [Fm.kidsBad, h14, h17]; simp [bne]; done) | (simp_all [Fm.kidsBad]; done)
   ·refine jN 24 ?_
    refine WA.splitB (i := 27) rfl (fun h27 => ?_) (fun h27 => ?_)
    ·refine jN 23 ?_
     refine WQ.byCut hQ (subF_bool ?_ ⟨rfl, trivial⟩ rfl)
     first | (rw [Fm.kidsBad, h14, h17]; simp [bne]; done) | (simp_all [Fm.kidsBad]; done)
    ·refine jN 18 ?_
     refine WQ.byCut hQ (subF_bool ?_ ⟨rfl, trivial⟩ rfl)
     first | (rw [Fm.kidsBad, h14, h17]; simp [bne]; done) | (simp_all [Fm.kidsBad]; done)
 refine jN 1 ?_
 refine WC.cond rfl (fun h11 => ?_) (fun h11 => ?_)
 ·refine jN 9 ?_
  exact WQ.ret (rs := [.tmp 2]) rfl (.tmp rfl .nil) (fun w hS => ⟨by simp_all [tup, Fm.rightB], hS.drop⟩)
 ·refine jN 12 ?_
  refine WC.cond rfl (fun h35 => ?_) (fun h35 => ?_)
  ·refine jN 7 ?_
   refine WL.callV F.fun51 rfl rfl (fun w _ => isName_c _ w) ?_
   refine jN 7 ?_
   exact WQ.ret (rs := [.tmp 2]) rfl (.tmp rfl .nil) (fun w hS => ⟨by simp_all [tup, Fm.rightB], hS.drop⟩)
  ·refine jN 16 ?_
   exact WQ.ret (rs := [.tmp 2]) rfl (.tmp rfl .nil) (fun w hS => ⟨by simp_all [tup, Fm.rightB], hS.drop⟩)

def VPost (bl : Nat) (w : World) : Option Nat → Ending → World → Prop
 | some l, e, w' => e = .returned (.bool true) ∧ St w [bl] [pt bl [.int .i64 (l : Int)] 3] w'
 | none, e, w' => ∃ cs, e = .returned (.bool false) ∧ St w [bl] [pt bl cs 3] w'
def NPost (bl : Nat) (w : World) : Option Nat → Ending → World → Prop
 | some l, e, w' => e = .returned (.bool false) ∧ St w [bl] [pt bl [.int .i64 (l : Int)] 3] w'
 | none, e, w' => ∃ cs, e = .returned (.bool true) ∧ St w [bl] [pt bl cs 3] w'
def IPost (bl : Nat) (w : World) : Option Nat → Ending → World → Prop
 | some l, e, w' => e = .returned (.int .i64 (-1)) ∧ St w [bl] [pt bl [.int .i64 (l : Int)] 3] w'
 | none, e, w' => ∃ x : Nat × List Value, e = .returned (.int .i64 (x.1 : Int)) ∧ St w [bl] [pt bl x.2 3] w'
def VC (lv : Nat) : Prop := ∀ t F a c left bl w, rdT w t F (tv t a c) → bl ∉ F → left ≤ 1000 → w.heap[bl]? = some (.cells [Value.int .i64 ((left : Nat) : Int)].toArray 3 (0, 0)) →
 Calls Tryz.prog 56 [tv t a c, .int .i64 (lv : Int), pp bl].toArray w (VPost bl w (Fm.validT lv t left))
/-- What the kids' check stands on. -/
structure VFr (w : World) (lv bl b4 b5 : Nat) (t : Tree) (G : List Nat) (a : Option Addr) (c left : Nat) : Prop where
 rd : rdT w t G (tv t a c)
 nf : bl ∉ G
 le : left ≤ 1000
 hl : w.heap[bl]? = some (.cells [Value.int .i64 (left : Int)].toArray 3 (0, 0))
 h4 : w.heap[b4]? = some (.cells [Value.int .i64 ((lv + 1 : Nat) : Int)].toArray 3 (0, 0))
 h5 : w.heap[b5]? = some (.cells [pp bl].toArray 97 (0, 0))
 n4 : b4 ≠ bl
 n5 : b5 ≠ bl
theorem rdT_out {w : World} {t : Tree} {F : List Nat} {v : Value} {bl : Nat} (h : rdT w t F v) (hn : bl ∉ F) : ∀ k ∈ F, k < w.heap.size ∧ k ∉ [bl] :=
 fun k hk => ⟨rdT_lt h k hk, by simp only [List.mem_singleton]; intro e; subst e; exact hn hk⟩
theorem cell_of_heap {w : World} {b : Nat} {cs : List Value} {e : TypeId} {j : Nat} {v : Value} (h : w.heap[b]? = some (.cells cs.toArray e (0, 0))) (hv : cs[j]? = some v) : w.cell? ⟨b, j, none⟩ = some v := by
 simp [World.cell?, h, hv]

theorem valid1_c (lv : Nat) (hlv : lv ≤ 1000) (hV : VC lv) (t : Tree) (G : List Nat) (a : Option Addr) (c left bl b4 b5 : Nat) (w : World) (hw : VFr w lv bl b4 b5 t G a c left) :
  Calls Tryz.prog 73 [tv t a c, pp b4, pp b5].toArray w (NPost bl w (Fm.validT lv t left)) := by
 have hN := fun w hr hp => hV t G a c left bl w hr hw.nf hw.le hp
 refine enter Tryz.func73 rfl Tryz.ntmps73 rfl (St.init1 hw.hl) ?_
 refine jN 3 ?_
 refine WL.boxN rfl rfl (fun b3 => ?_)
 refine jN 5 ?_
 rcases hv : Fm.validT lv t left with _ | l
 ·rw [hv] at hN
  refine jN 4 ?_
  refine WL.load1 F.one3 rfl rfl (fun w hS => hS.oldc (cell_of_heap hw.h4 rfl) (by simp [hw.n4])) ?_
  refine jN 2 ?_
  refine WA.say 7 (.int .i64 (lv : Int)) (congrArg (fun z => some (Value.int .i64 z)) (show ((lv + 1 : Nat) : Int) - 1 = (lv : Int) by omega)) ?_
  refine jN 1 ?_
  refine WL.load1 F.one97 rfl rfl (fun w hS => hS.oldc (cell_of_heap hw.h5 rfl) (by simp [hw.n5])) ?_
  refine jN 1 ?_
  refine WL.call1B (β := List Value) (v := .bool false) (c1 := fun cs => pt bl cs 3) F.fun56 rfl rfl jR (fun w hS => hN w (hS.oldT hw.rd (rdT_out hw.rd hw.nf)) (hS.heap jM)) (fun cs9 => ?_)
  refine jN 7 ?_
  refine WQ.ret (rs := [.tmp 4]) rfl (.tmp rfl .nil) (fun w hS => ?_)
  exact ⟨cs9, rfl, (St.pick hS (c := pt bl cs9 3) jR).one1⟩
 ·rw [hv] at hN
  refine jN 4 ?_
  refine WL.load1 F.one3 rfl rfl (fun w hS => hS.oldc (cell_of_heap hw.h4 rfl) (by simp [hw.n4])) ?_
  refine jN 2 ?_
  refine WA.say 7 (.int .i64 (lv : Int)) (congrArg (fun z => some (Value.int .i64 z)) (show ((lv + 1 : Nat) : Int) - 1 = (lv : Int) by omega)) ?_
  refine jN 1 ?_
  refine WL.load1 F.one97 rfl rfl (fun w hS => hS.oldc (cell_of_heap hw.h5 rfl) (by simp [hw.n5])) ?_
  refine jN 1 ?_
  refine WL.call1S (v := .bool true) (bs' := [.int .i64 (l : Int)]) F.fun56 rfl rfl jR (fun w hS => hN w (hS.oldT hw.rd (rdT_out hw.rd hw.nf)) (hS.heap jM)) ?_
  refine jN 7 ?_
  refine WQ.ret (rs := [.tmp 4]) rfl (.tmp rfl .nil) (fun w hS => ?_)
  exact ⟨rfl, (St.pick hS (c := pt bl [.int .i64 (l : Int)] 3) jR).one1⟩

theorem indexV_c (lv : Nat) (hlv : lv ≤ 1000) (hV : VC lv) (t : Tree) (G : List Nat) (a : Option Addr) (c left bl b4 b5 : Nat) (w : World) (hw : VFr w lv bl b4 b5 t G a c left) :
  Calls Tryz.prog 88 [.slice a t.kids.length c, .func (.func 73) [].toArray [pp b4, pp b5].toArray].toArray w (IPost bl w (Fm.validL lv t.kids left)) := by
 refine enter Tryz.func88 rfl Tryz.ntmps88 rfl (St.init1 hw.hl) ?_
 refine jN 18 ?_
 refine WC.loop (α := Nat × Nat) (fun g => g.1 ≤ t.kids.length ∧ g.1 + g.2 ≤ 1000 ∧ Fm.validL lv t.kids left = Fm.validL lv (t.kids.drop g.1) g.2) (fun g => [(0, .slice a t.kids.length c), (1, .func (.func 73) [].toArray [pp b4, pp b5].toArray), (7, .int .i64 (t.kids.length : Int)), (8, .int .i64 (g.1 : Int))]) (fun g => [pt bl [.int .i64 (g.2 : Int)] 3]) (fun g => t.kids.length - g.1) ((0, left)) ?_ ?_ ?_ ?_
 ·exact ⟨Nat.zero_le _, by have := hw.le; show 0 + left ≤ 1000; omega, rfl⟩
 ·exact ⟨rfl, rfl, rfl, rfl, trivial⟩
 ·rfl
 rintro ⟨i, lf⟩ ⟨hi, hil, hval⟩
 dsimp only at hi hil hval
 have hlf : lf ≤ 1000 := by omega
 show WC _ _ _ _ _ _ _ [(0, .slice a t.kids.length c), (1, .func (.func 73) [].toArray [pp b4, pp b5].toArray), (7, .int .i64 (t.kids.length : Int)), (8, .int .i64 (i : Int))] [pt bl [.int .i64 (lf : Int)] 3]
 refine jN 7 ?_
 refine WC.cond rfl (fun h9 => ?_) (fun h9 => ?_)
 ·have hlt : i < t.kids.length := by simpa using h9
  obtain ⟨k, hk⟩ : ∃ k, t.kids[i]? = some k := ⟨_, List.getElem?_eq_getElem hlt⟩
  have hst := Fm.validL_drop (lv := lv) (left := lf) hk
  obtain ⟨b, off, F1, a1, c1, ha, hbF, hF1, hk1, hcells⟩ := rdT_at hw.rd hk
  subst ha
  refine jN 13 ?_
  rcases hv : Fm.validT lv k lf with _ | l
  ·rw [hv] at hst
   have hval2 : Fm.validL lv t.kids left = none := hval.trans hst
   have hN := fun w (hw : VFr w lv bl b4 b5 k F1 a1 c1 lf) => valid1_c lv hlv hV k F1 a1 c1 lf bl b4 b5 w hw
   rw [hv] at hN
   refine jN 8 ?_
   refine WL.indexAddr F.sl34 rfl rfl rfl hlt ?_
   refine jN 1 ?_
   refine WL.loadN F.agg36 rfl rfl (vs := [.int .u8 k.op, .string (str k.name), .slice a1 k.kids.length c1]) rfl (fun w hS j v hj => hS.oldc (hcells j v hj) (by simp only [List.mem_singleton]; intro e; exact hw.nf (e ▸ hbF))) ?_
   refine jN 1 ?_
   refine WL.callFA (β := List Value) (v := .bool true) (c1 := fun cs => pt bl (cs) 3) F.fun73 rfl rfl rfl jR (fun w hS => hN w ⟨hS.oldT hk1 (rdT_out hw.rd hw.nf |> fun h x hx => h x (hF1 x hx)), fun hb => hw.nf (hF1 _ hb), hlf, hS.heap jM, hS.oldh hw.h4 (by simp [hw.n4]), hS.oldh hw.h5 (by simp [hw.n5]), hw.n4, hw.n5⟩) (fun cs16 => ?_)
   refine jN 17 ?_
   refine WQ.ret (rs := [.tmp 4]) rfl (.tmp rfl .nil) (fun w hS => ?_)
   rw [hval2]
   exact ⟨(i, cs16), rfl, hS⟩
  ·rw [hv] at hst
   have hval2 : Fm.validL lv t.kids left = Fm.validL lv (t.kids.drop (i + 1)) l := hval.trans hst
   have hN := fun w (hw : VFr w lv bl b4 b5 k F1 a1 c1 lf) => valid1_c lv hlv hV k F1 a1 c1 lf bl b4 b5 w hw
   rw [hv] at hN
   refine jN 8 ?_
   refine WL.indexAddr F.sl34 rfl rfl rfl hlt ?_
   refine jN 1 ?_
   refine WL.loadN F.agg36 rfl rfl (vs := [.int .u8 k.op, .string (str k.name), .slice a1 k.kids.length c1]) rfl (fun w hS j v hj => hS.oldc (hcells j v hj) (by simp only [List.mem_singleton]; intro e; exact hw.nf (e ▸ hbF))) ?_
   refine jN 1 ?_
   refine WL.callFA (β := Unit) (v := .bool false) (c1 := fun cs => pt bl ([.int .i64 (l : Int)]) 3) F.fun73 rfl rfl rfl jR (fun w hS => (hN w ⟨hS.oldT hk1 (rdT_out hw.rd hw.nf |> fun h x hx => h x (hF1 x hx)), fun hb => hw.nf (hF1 _ hb), hlf, hS.heap jM, hS.oldh hw.h4 (by simp [hw.n4]), hS.oldh hw.h5 (by simp [hw.n5]), hw.n4, hw.n5⟩).mono (fun e w' h => ⟨(), h⟩)) (fun _ => ?_)
   refine jN 12 ?_
   refine WQ.back ((i + 1, l)) ?_ ?_ ?_ ?_
   ·exact ⟨by show i + 1 ≤ t.kids.length; omega, by have := Fm.validT_le hv; show i + 1 + l ≤ 1000; omega, hval2⟩
   ·(show t.kids.length - (i + 1) < t.kids.length - i; omega)
   ·exact ⟨rfl, rfl, rfl, rfl, trivial⟩
   ·rfl
 ·have hie : i = t.kids.length := by simp at h9; omega
  subst hie
  rw [List.drop_length] at hval
  have hval3 : Fm.validL lv t.kids left = some lf := hval
  refine jN 12 ?_
  refine WQ.ret (rs := [.tmp 4]) rfl (.tmp rfl .nil) (fun w hS => ?_)
  rw [hval3]
  exact ⟨rfl, hS⟩

theorem containsV_c (lv : Nat) (hlv : lv ≤ 1000) (hV : VC lv) (t : Tree) (G : List Nat) (a : Option Addr) (c left bl b4 b5 : Nat) (w : World) (hw : VFr w lv bl b4 b5 t G a c left) :
  Calls Tryz.prog 72 [.slice a t.kids.length c, .func (.func 73) [].toArray [pp b4, pp b5].toArray].toArray w (NPost bl w (Fm.validL lv t.kids left)) := by
 have hN := fun w (hw : VFr w lv bl b4 b5 t G a c left) => indexV_c lv hlv hV t G a c left bl b4 b5 w hw
 refine enter Tryz.func72 rfl Tryz.ntmps72 rfl (St.init1 hw.hl) ?_
 refine jN 7 ?_
 rcases hv : Fm.validL lv t.kids left with _ | l
 ·rw [hv] at hN
  refine jN 6 ?_
  refine WL.call1C (β := Nat × List Value) (res := fun x => .int .i64 (x.1 : Int)) (c1 := fun x => pt bl x.2 3) F.fun88 rfl rfl jR (fun w hS => hN w ⟨hS.oldT hw.rd (rdT_out hw.rd hw.nf), hw.nf, hw.le, hS.heap jM, hS.oldh hw.h4 (by simp [hw.n4]), hS.oldh hw.h5 (by simp [hw.n5]), hw.n4, hw.n5⟩) (fun x => ?_)
  refine jN 7 ?_
  refine WQ.ret (rs := [.tmp 4]) rfl (.tmp rfl .nil) (fun w hS => ?_)
  exact ⟨x.2, by simp [tup], hS⟩
 ·rw [hv] at hN
  refine jN 6 ?_
  refine WL.call1S (v := .int .i64 (-1)) (bs' := [.int .i64 (l : Int)]) F.fun88 rfl rfl jR (fun w hS => hN w ⟨hS.oldT hw.rd (rdT_out hw.rd hw.nf), hw.nf, hw.le, hS.heap jM, hS.oldh hw.h4 (by simp [hw.n4]), hS.oldh hw.h5 (by simp [hw.n5]), hw.n4, hw.n5⟩) ?_
  refine jN 7 ?_
  refine WQ.ret (rs := [.tmp 4]) rfl (.tmp rfl .nil) (fun w hS => ?_)
  exact ⟨rfl, hS⟩

theorem validT_none {lv left : Nat} {t : Tree} (h : (decide (lv = 0) || decide (left = 0) || !Fm.rightB t) = true) : Fm.validT lv t left = none := by
 obtain ⟨op, name, kids⟩ := t
 simp only [Bool.or_eq_true, decide_eq_true_eq, Bool.not_eq_true'] at h
 simp only [Fm.validT]
 rw [if_pos]
 rcases h with (h | h) | h
 ·exact .inl h
 ·exact .inr (.inl h)
 ·exact .inr (.inr h)
theorem validT_some {lv left : Nat} {t : Tree} (h : (decide (lv = 0) || decide (left = 0) || !Fm.rightB t) = false) : ∃ lv' left', lv = lv' + 1 ∧ left = left' + 1 ∧ Fm.validT lv t left = Fm.validL lv' t.kids left' := by
 obtain ⟨op, name, kids⟩ := t
 simp only [Bool.or_eq_false_iff, decide_eq_false_iff_not, Bool.not_eq_false'] at h
 refine ⟨lv - 1, left - 1, by omega, by omega, ?_⟩
 simp only [Fm.validT]
 rw [if_neg]
 ·rfl
 ·rintro (h' | h' | h')
  ·exact h.1.1 h'
  ·exact h.1.2 h'
  ·rw [h.2] at h'; cases h'

theorem valid_step (lv : Nat) (hlv : lv ≤ 1000) (hV : ∀ lv', lv = lv' + 1 → VC lv') : VC lv := by
 intro t G a c left bl w hr hbl hle hp
 refine enter Tryz.func56 rfl Tryz.ntmps56 rfl (St.init1 hp) ?_
 refine jN 3 ?_
 refine WL.boxN rfl rfl (fun b3 => ?_)
 refine jN 1 ?_
 refine WL.box1 rfl rfl rfl (fun b4 => ?_)
 refine jN 1 ?_
 refine WL.box1 rfl rfl rfl (fun b5 => ?_)
 refine jN 22 ?_
 refine WC.cutF [(24, .bool (decide (lv = 0) || decide (left = 0) || !Fm.rightB t)), (3, pp b3), (4, pp b4), (5, pp b5)] (fun Q' hQ => ?_) ?_
 ·refine jN 7 ?_
  refine WA.splitB (i := 14) rfl (fun h14 => ?_) (fun h14 => ?_)
  ·refine jN 21 ?_
   refine WQ.byCut hQ (subF_bool ?_ ⟨rfl, rfl, rfl, trivial⟩ rfl)
   have e13 : ((lv : Int) == 0) = decide (lv = 0) := by rw [Bool.eq_iff_iff]; simp
   have e18 : decide ((left : Int) - 1 < 0) = decide (left = 0) := by rw [Bool.eq_iff_iff]; simp; omega
   simp_all
  ·refine jN 16 ?_
   refine WA.splitB (i := 20) rfl (fun h20 => ?_) (fun h20 => ?_)
   ·refine jN 9 ?_
    refine WQ.byCut hQ (subF_bool ?_ ⟨rfl, rfl, rfl, trivial⟩ rfl)
    have e13 : ((lv : Int) == 0) = decide (lv = 0) := by rw [Bool.eq_iff_iff]; simp
    have e18 : decide ((left : Int) - 1 < 0) = decide (left = 0) := by rw [Bool.eq_iff_iff]; simp; omega
    simp_all
   ·refine jN 5 ?_
    refine WL.callV F.fun71 rfl rfl (fun w _ => right_c t a c w) ?_
    refine jN 6 ?_
    refine WQ.byCut hQ (subF_bool ?_ ⟨rfl, rfl, rfl, trivial⟩ rfl)
    have e13 : ((lv : Int) == 0) = decide (lv = 0) := by rw [Bool.eq_iff_iff]; simp
    have e18 : decide ((left : Int) - 1 < 0) = decide (left = 0) := by rw [Bool.eq_iff_iff]; simp; omega
    simp_all
 refine jN 1 ?_
 refine WC.cond rfl (fun h24 => ?_) (fun h24 => ?_)
 ·have hval := validT_none h24
  refine jN 8 ?_
  refine WQ.ret (rs := [.tmp 6]) rfl (.tmp rfl .nil) (fun w hS => ?_)
  rw [hval]
  exact ⟨_, rfl, (St.pick hS (c := pt bl [.int .i64 ((left : Int) - 1)] 3) jR).one1⟩
 ·obtain ⟨lv, left, rfl, rfl, hval⟩ := validT_some h24
  have e : (((left + 1 : Nat) : Int) - 1) = (left : Int) := by omega
  rw [e]
  have hC := fun w (hw : VFr w lv bl b4 b5 t G a c left) => containsV_c lv (by omega) (hV lv rfl) t G a c left bl b4 b5 w hw
  refine jN 3 ?_
  rcases hvl : Fm.validL lv t.kids left with _ | l
  ·rw [hvl] at hC hval
   refine jN 8 ?_
   refine WL.call1B (β := List Value) (v := .bool true) (c1 := fun cs => pt bl cs 3) F.fun72 rfl rfl jR (fun w hS => hC w ⟨hS.oldT hr (rdT_out hr hbl), hbl, by omega, hS.heap jM, hS.heap jM, hS.heap jM, St.ne2 (St.pick (St.pick hS (c := pt bl [.int .i64 (left : Int)] 3) jR) (c := pt b4 [.int .i64 ((lv + 1 : Nat) : Int)] 3) jR), St.ne2 (St.pick (St.pick hS (c := pt bl [.int .i64 (left : Int)] 3) jR) (c := pt b5 [pp bl] 97) jR)⟩) (fun cs28 => ?_)
   refine jN 7 ?_
   refine WQ.ret (rs := [.tmp 6]) rfl (.tmp rfl .nil) (fun w hS => ?_)
   rw [hval]
   exact ⟨cs28, rfl, (St.pick hS (c := pt bl cs28 3) jR).one1⟩
  ·rw [hvl] at hC hval
   refine jN 8 ?_
   refine WL.call1S (v := .bool false) (bs' := [.int .i64 (l : Int)]) F.fun72 rfl rfl jR (fun w hS => hC w ⟨hS.oldT hr (rdT_out hr hbl), hbl, by omega, hS.heap jM, hS.heap jM, hS.heap jM, St.ne2 (St.pick (St.pick hS (c := pt bl [.int .i64 (left : Int)] 3) jR) (c := pt b4 [.int .i64 ((lv + 1 : Nat) : Int)] 3) jR), St.ne2 (St.pick (St.pick hS (c := pt bl [.int .i64 (left : Int)] 3) jR) (c := pt b5 [pp bl] 97) jR)⟩) ?_
   refine jN 7 ?_
   refine WQ.ret (rs := [.tmp 6]) rfl (.tmp rfl .nil) (fun w hS => ?_)
   rw [hval]
   exact ⟨rfl, (St.pick hS (c := pt bl [.int .i64 (l : Int)] 3) jR).one1⟩

theorem valid_c : ∀ lv : Nat, lv ≤ 1000 → VC lv
 | 0, h => valid_step 0 h (fun _ e => by omega)
 | lv + 1, h => valid_step (lv + 1) h (fun lv' e => by
  have : lv' = lv := by omega
  subst this
  exact valid_c lv' (by omega))

theorem Valid_c (t : Tree) (G : List Nat) (a : Option Addr) (c : Nat) (w : World) (hr : rdT w t G (tv t a c)) : Pure Tryz.prog 32 [tv t a c] w (.bool (Fm.validB t)) := by
 refine enter Tryz.func32 rfl Tryz.ntmps32 rfl (St.init _) ?_
 refine jN 3 ?_
 refine WL.boxN rfl rfl (fun b1 => ?_)
 refine jN 7 ?_
 refine WL.alloc F.zero3 rfl (fun b3 => ?_)
 refine jN 5 ?_
 rcases hv : Fm.validT 64 t 1000 with _ | l
 ·have hN := fun w hr hbl hp => valid_c 64 (by omega) t G a c 1000 b3 w hr hbl (Nat.le_refl _) hp
  rw [hv] at hN
  refine jN 3 ?_
  refine WA.know (φ := ∀ k ∈ G, k ≠ b3) (fun w' hS k hk e => ?_) (fun hne => ?_)
  ·have h1 := (hS.bnd (pt b3 [.int .i64 1000] 3) jM b3 rfl).2
   have h2 := rdT_lt hr k hk
   subst e
   cases h1 h2
  refine jN 1 ?_
  refine WL.call1B (β := List Value) (v := .bool false) (c1 := fun cs => pt b3 cs 3) F.fun56 rfl rfl jR (fun w hS => hN w (hS.oldT hr (fun k hk => ⟨rdT_lt hr k hk, by simp⟩)) (fun hb => hne _ hb rfl) (hS.heap jM)) (fun cs5 => ?_)
  refine jN 5 ?_
  exact WQ.ret (rs := [.tmp 2]) rfl (.tmp rfl .nil) (fun w hS => ⟨by simp [tup, Fm.validB, hv], hS.drop.drop⟩)
 ·have hN := fun w hr hbl hp => valid_c 64 (by omega) t G a c 1000 b3 w hr hbl (Nat.le_refl _) hp
  rw [hv] at hN
  refine jN 3 ?_
  refine WA.know (φ := ∀ k ∈ G, k ≠ b3) (fun w' hS k hk e => ?_) (fun hne => ?_)
  ·have h1 := (hS.bnd (pt b3 [.int .i64 1000] 3) jM b3 rfl).2
   have h2 := rdT_lt hr k hk
   subst e
   cases h1 h2
  refine jN 1 ?_
  refine WL.call1S (v := .bool true) (bs' := [.int .i64 (l : Int)]) F.fun56 rfl rfl jR (fun w hS => hN w (hS.oldT hr (fun k hk => ⟨rdT_lt hr k hk, by simp⟩)) (fun hb => hne _ hb rfl) (hS.heap jM)) ?_
  refine jN 5 ?_
  exact WQ.ret (rs := [.tmp 2]) rfl (.tmp rfl .nil) (fun w hS => ⟨by simp [tup, Fm.validB, hv], hS.drop.drop⟩)

end Go.Proofs.YtkgllhkhdjodeaaGreatDoor

namespace Go.Proofs.YtkgllhkhdjodeaaGreatDoor
open Go Go.Eng Go.Proofs
structure PCn (bp : Nat) (text : List UInt8) (n : Nat) : Prop where
 ch : PC bp text 31 [pp bp] .choice n
 sa : PC bp text 52 [pp bp] .same n
 im : PC bp text 70 [pp bp] .implies n
 ro : ∀ i : Nat, i ≤ 3 → PC bp text 86 [pp bp, .int .i64 (i : Int)] (.row i) n
 no : PC bp text 104 [pp bp] .not n
 le : PC bp text 112 [pp bp] .least n
theorem PC.zero {bp : Nat} {text : List UInt8} {f : Nat} {args : List Value} {nt : Fm.NT} : PC bp text f args nt 0 := fun a x r w _ h _ => by simp [Fm.parse] at h
theorem pc_all (bp : Nat) (text : List UInt8) (hmax : text.length ≤ 1099511627776) : ∀ n, PCn bp text n := by
 intro n
 induction n using Nat.strongRecOn with
 | _ n ih =>
  cases n with
  | zero => exact ⟨PC.zero, PC.zero, PC.zero, fun _ _ => PC.zero, PC.zero, PC.zero⟩
  | succ n =>
   have hm : text.length ≤ 140737488355328 := by omega
   have h := ih n (Nat.lt_succ_self n)
   exact ⟨choice_c bp text hm n h.sa h.ch, same_c bp text hm n h.im h.im, implies_c bp text hm n (h.ro 0 (by omega)) h.im,
    fun i hi => row_c bp text hmax n i hi h.no (fun hi3 m hm => (ih m (by omega)).ro (i + 1) (by omega)),
    not_c bp text hm n (fun m hm => (ih m (by omega)).le), least_c bp text hm n h.ch⟩

theorem catch_idle (b2 b3 b4 : Nat) (w : World) :
  CallsD Tryz.prog 29 [pp b2, pp b3, pp b4].toArray .returning w fun e u' w' => e = .returned (.tuple #[]) ∧ u' = .returning ∧ St w [] [] w' := by
 refine enterS Tryz.func29 rfl Tryz.ntmps29 rfl rfl rfl (St.init _) Recovers.returning (fun c₀ cs => ?_)
 refine jN 5 ?_
 refine WL.bin rfl rfl rfl (v := .bool false) (fun w => by kernel_rfl) ?_
 refine jN 4 ?_
 exact WQ.finS (rs := []) rfl .nil (fun w hS => ⟨rfl, rfl, hS⟩)

theorem _root_.Go.Eng.St.init3 {w : World} {b c d : Nat} {bs cs ds : List Value} {e1 e2 e3 : TypeId} (hb : w.heap[b]? = some (.cells bs.toArray e1 (0, 0))) (hc : w.heap[c]? = some (.cells cs.toArray e2 (0, 0)))
  (hd : w.heap[d]? = some (.cells ds.toArray e3 (0, 0))) (h1 : b ≠ c) (h2 : b ≠ d) (h3 : c ≠ d) : St w [b, c, d] [pt b bs e1, pt c cs e2, pt d ds e3] w := by
 refine ⟨rfl, rfl, rfl, Nat.le_refl _, fun _ _ _ => rfl, ?_, ?_, ?_⟩
 ·intro x hx
  simp only [List.mem_cons, List.not_mem_nil, or_false] at hx
  rcases hx with rfl | rfl | rfl
  ·exact hb
  ·exact hc
  ·exact hd
 ·intro x hx k hk
  simp only [List.mem_cons, List.not_mem_nil, or_false] at hx
  rcases hx with rfl | rfl | rfl
  ·have hk' : k = b := hk
   subst hk'
   exact ⟨lt_of_heap hb, fun _ => by simp⟩
  ·have hk' : k = c := hk
   subst hk'
   exact ⟨lt_of_heap hc, fun _ => by simp⟩
  ·have hk' : k = d := hk
   subst hk'
   exact ⟨lt_of_heap hd, fun _ => by simp⟩
 ·refine .cons (fun x hx k hk hk2 => ?_) (.cons (fun x hx k hk hk2 => ?_) (.cons (fun x hx => by cases hx) .nil))
  ·have hk' : k = b := hk
   simp only [List.mem_cons, List.not_mem_nil, or_false] at hx
   rcases hx with rfl | rfl
   ·exact h1 (hk'.symm.trans hk2)
   ·exact h2 (hk'.symm.trans hk2)
  ·have hk' : k = c := hk
   simp only [List.mem_cons, List.not_mem_nil, or_false] at hx
   subst hx
   exact h3 (hk'.symm.trans hk2)

theorem catch_trouble (b2 b3 b4 : Nat) (at_ : Nat) (v2 v3 v4 : List Value) (h23 : b2 ≠ b3) (h24 : b2 ≠ b4) (h34 : b3 ≠ b4) (hv2 : v2.length = 3) (hv3 : v3.length = 1) (hv4 : v4.length = 1) (w : World)
  (h2 : w.heap[b2]? = some (.cells v2.toArray 36 (0, 0))) (h3 : w.heap[b3]? = some (.cells v3.toArray 3 (0, 0))) (h4 : w.heap[b4]? = some (.cells v4.toArray 24 (0, 0))) :
  CallsD Tryz.prog 29 [pp b2, pp b3, pp b4].toArray (.panicking (trouble at_)) w fun e u' w' => e = .returned (.tuple #[]) ∧ u' = .panicking [{ v := .iface 68 (.agg #[.int .i64 (at_ : Int)]), recovered := true }] ∧
   St w [b2, b3, b4] [pt b2 [.int .u8 0, .string (str []), .slice none 0 0] 36, pt b3 [.int .i64 (at_ : Int)] 3, pt b4 [.int .i64 4] 24] w' := by
 obtain ⟨x1, x2, x3, rfl⟩ : ∃ x1 x2 x3, v2 = [x1, x2, x3] := by match v2, hv2 with | [x1, x2, x3], _ => exact ⟨x1, x2, x3, rfl⟩
 obtain ⟨y, rfl⟩ : ∃ y, v3 = [y] := List.length_eq_one_iff.1 hv3
 obtain ⟨z, rfl⟩ : ∃ z, v4 = [z] := List.length_eq_one_iff.1 hv4
 refine enterS Tryz.func29 rfl Tryz.ntmps29 rfl rfl rfl (St.init3 h2 h3 h4 h23 h24 h34) (Recovers.panicking _ []) (fun c₀ cs => ?_)
 refine jN 5 ?_
 refine WL.bin rfl rfl rfl (v := .bool true) (fun w => by kernel_rfl) ?_
 refine jN 8 ?_
 refine WL.typeAssert rfl rfl (v := .tuple #[.agg #[.int .i64 (at_ : Int)], .bool true]) (fun w => by kernel_rfl) ?_
 refine jN 7 ?_
 refine WL.alloc F.zero68 rfl (fun b4_1 => ?_)
 refine jN 18 ?_
 refine WC.draws [([4, 5], fun w => w.cell? ⟨b4_1, 0, none⟩ = some (.int .i64 (at_ : Int)))] (by kernel_rfl) (fun w hS => facts_cons (hS.cell jM rfl) (facts_nil)) ?_
 refine jT 0 rfl (Yl.build F.stT36 rfl jB) ?_
 refine jT 1 rfl (Yl.fieldAddr0 F.fld68_0 rfl) ?_
 refine jF 2 0 rfl rfl (Yl.load1 F.one3 rfl) ?_
 refine jA 3 rfl ?_
 refine WL.storeN F.agg36 rfl rfl rfl jO jU jS ?_
 refine WD.on (closed_of (by kernel_rfl)) (fun w hS => Sx.keep (hS.cell jM rfl) (Sx.none)) ?_
 refine jA 4 rfl ?_
 refine WL.store1 F.one3 rfl rfl rfl jU jS ?_
 refine jG ?_
 refine jA 5 rfl ?_
 refine WL.store1 F.one24 rfl rfl rfl jU jS ?_
 refine jG ?_
 refine jD ?_
 exact WQ.finS (rs := []) rfl .nil (fun w hS => ⟨rfl, rfl, hS.sublist (List.Sublist.cons _ (List.Sublist.refl _))⟩)

end Go.Proofs.YtkgllhkhdjodeaaGreatDoor

namespace Go.Proofs.YtkgllhkhdjodeaaGreatDoor
open Go Go.Eng Go.Proofs
theorem _root_.Go.Eng.St.call3 {w0 w w' : World} {O : List Nat} {C cs : List Chunk} {b c d : Nat} {vb vc vd : List Value} {e1 e2 e3 : TypeId} (h : St w0 O (pt b vb e1 :: pt c vc e2 :: pt d vd e3 :: C) w) (hc : St w [b, c, d] cs w') : St w0 O (cs ++ C) w' := by
 have d1 := List.pairwise_cons.1 h.disj
 have d2 := List.pairwise_cons.1 d1.2
 have d3 := List.pairwise_cons.1 d2.2
 refine h.drop.drop.drop.call hc (fun k hk _ => ?_)
 simp only [List.mem_cons, List.not_mem_nil, or_false] at hk
 rcases hk with rfl | rfl | rfl
 ·exact ⟨fun x hx => d1.1 x (by simp [hx]) k rfl, fun hlt => (h.bnd (pt k vb e1) (by simp) k rfl).2 hlt⟩
 ·exact ⟨fun x hx => d2.1 x (by simp [hx]) k rfl, fun hlt => (h.bnd (pt k vc e2) (by simp) k rfl).2 hlt⟩
 ·exact ⟨fun x hx => d3.1 x hx k rfl, fun hlt => (h.bnd (pt k vd e3) (by simp) k rfl).2 hlt⟩
def ParsePost (w : World) (r : Tree × Nat × Int) (e : Ending) (w' : World) : Prop :=
 ∃ y : List Nat × Option Addr × Nat, e = .returned (.tuple #[tv r.1 y.2.1 y.2.2, .int .i64 (r.2.1 : Int), .int .i64 r.2.2]) ∧ St w [] [own y.1 r.1 (tv r.1 y.2.1 y.2.2)] w'

theorem Parse_c (text : List UInt8) (w : World) : Calls Tryz.prog 12 [Value.string (str text)].toArray w (ParsePost w (Fm.top text)) := by
 refine enterD Tryz.func12 rfl Tryz.ntmps12 rfl (St.init _) ?_
 refine jN 3 ?_
 refine WL.alloc F.zero36 rfl (fun b2 => ?_)
 refine jN 1 ?_
 refine WL.alloc F.zero3 rfl (fun b3 => ?_)
 refine jN 1 ?_
 refine WL.alloc F.zero24 rfl (fun b4 => ?_)
 refine jN 13 ?_
 refine WC.cond rfl (fun h8 => ?_) (fun h8 => ?_)
 ·have htop : Fm.top text = (Fm.zeroTree, 65536, 5) := by (have h9 : 65536 < text.length := by simp at h8; omega); simp only [Fm.top, h9, if_true]
  refine jN 14 ?_
  refine WQ.ret0 rfl (rs := [.cell 2 36, .cell 3 3, .cell 4 24]) (.cellN F.agg36 rfl jM rfl (.cell1 F.one3 rfl jM rfl (.cell1 F.one24 rfl jM rfl .nil))) (fun w hS => ?_)
  rw [htop]
  exact ⟨([], none, 0), rfl, (St.node0 0 [] hS).one1⟩
 ·have hl8 : ¬ 65536 < text.length := by simp at h8; omega
  have hmax : text.length ≤ 140737488355328 := by omega
  have hmax2 : text.length ≤ 1099511627776 := by omega
  refine jN 7 ?_
  refine WL.defer (us := []) (cap := [pp b2, pp b3, pp b4]) rfl ?_
  refine jN 9 ?_
  refine WL.boxN rfl rfl (fun b13 => ?_)
  refine jN 5 ?_
  rcases hn : Fm.next text 0 [] with ⟨a, x⟩ | a
  ·have hN := fun w hp => next_c b13 text [] 0 (by simp) hmax w hp
   rw [hn] at hN
   have hle := (Fm.next_le (by simp) hn).2
   obtain ⟨r, hr⟩ := Fm.parse_total (Fm.fuel text) .choice a x hle (by simp only [Fm.rank, Fm.fuel]; omega)
   refine jN 4 ?_
   refine WL.call1S (bs := pcell text 0 []) (bs' := pcell text a x) F.fun30 rfl rfl jR (fun w hS => hN w (hS.heap jM)) ?_
   refine jN 3 ?_
   rcases r with ⟨t1, b1, x1⟩ | b1
   ·have hC := fun w hp => (pc_all b13 text hmax2 _).ch a x _ w hle hr hp
    refine jN 4 ?_
    refine WL.call1A (res := fun y : List Nat × Option Addr × Nat => tv t1 y.2.1 y.2.2) (c1 := fun y : List Nat × Option Addr × Nat => own y.1 t1 (tv t1 y.2.1 y.2.2)) (c2 := fun _ => pt b13 (pcell text b1 x1) 72) (bs := pcell text a x) F.fun31 rfl rfl jR (fun w hS => hC w (hS.heap jM)) (fun y17 => ?_)
    refine jN 19 ?_
    refine WC.cond rfl (fun h22 => ?_) (fun h22 => ?_)
    ·have hx : x1 ≠ [] := by simpa using h22
     have htop : Fm.top text = (Fm.zeroTree, b1, 4) := by simp only [Fm.top, hl8, if_false, hn, hr, hx, ne_eq, not_false_eq_true, if_true]
     refine jN 12 ?_
     refine WL.makeIface F.conc68 rfl rfl ?_
     refine jN 1 ?_
     refine WL.panic rfl ?_
     refine jN 1 ?_
     refine WQ.panicD (g := 29) (us := []) (cap := [pp b2, pp b3, pp b4]) (C2 := [pt b2 [Value.int .u8 0, .string (str []), .slice none 0 0] 36, pt b3 [.int .i64 (b1 : Int)] 3, pt b4 [.int .i64 4] 24]) (v := .tuple #[]) (ch2 := [{ v := .iface 68 (.agg #[.int .i64 (b1 : Int)]), recovered := true }]) F.fun29 (fun w hS => ?_) rfl (rs := [.cell 2 36, .cell 3 3, .cell 4 24]) rfl (.cellN F.agg36 rfl jM rfl (.cell1 F.one3 rfl jM rfl (.cell1 F.one24 rfl jM rfl .nil))) (fun w hS => ?_)
     ·refine (catch_trouble b2 b3 b4 b1 _ _ _ (St.ne2 (St.pick (St.pick hS (c := pt b3 [.int .i64 0] 3) jR) (c := pt b2 [Value.int .u8 t1.op, .string (str t1.name), .slice y17.2.1 t1.kids.length y17.2.2] 36) jR)) (St.ne2 (St.pick (St.pick hS (c := pt b4 [.int .i64 0] 24) jR) (c := pt b2 [Value.int .u8 t1.op, .string (str t1.name), .slice y17.2.1 t1.kids.length y17.2.2] 36) jR)) (St.ne2 (St.pick (St.pick hS (c := pt b4 [.int .i64 0] 24) jR) (c := pt b3 [.int .i64 0] 3) jR)) rfl rfl rfl w (hS.heap (cs := [Value.int .u8 t1.op, .string (str t1.name), .slice y17.2.1 t1.kids.length y17.2.2]) jM) (hS.heap (cs := [.int .i64 0]) jM) (hS.heap (cs := [.int .i64 0]) jM)).mono (fun e u2 w2 h => ⟨h.1, h.2.1, ?_⟩)
      exact (St.call3 (St.pick (St.pick (St.pick hS (c := pt b4 [.int .i64 0] 24) jR) (c := pt b3 [.int .i64 0] 3) jR) (c := pt b2 [Value.int .u8 t1.op, .string (str t1.name), .slice y17.2.1 t1.kids.length y17.2.2] 36) jR) h.2.2).sublist (List.sublist_append_left _ _)
     ·rw [htop]
      exact ⟨([], none, 0), rfl, (St.node0 0 [] hS).one1⟩
    ·have hx : x1 = [] := by simpa using h22
     refine jN 8 ?_
     refine WL.callV F.fun32 rfl rfl (fun w hS => Valid_c t1 y17.1 _ _ w (hS.ok (own y17.1 t1 (tv t1 y17.2.1 y17.2.2)) jM).2) ?_
     refine jN 4 ?_
     refine WC.cond rfl (fun h31 => ?_) (fun h31 => ?_)
     ·have hv : Fm.validB t1 = false := by simpa using h31
      have htop : Fm.top text = (Fm.zeroTree, text.length, 5) := by simp only [Fm.top, hl8, if_false, hn, hr, hx, ne_eq, not_true_eq_false, hv, Bool.false_eq_true]
      refine jN 18 ?_
      refine WQ.retD (g := 29) (us := []) (cap := [pp b2, pp b3, pp b4]) F.fun29 (fun w hS => (catch_idle b2 b3 b4 w).mono (fun e u2 w2 h => ⟨h.1, h.2.1, hS.call0 h.2.2⟩)) rfl (rs := [.cell 2 36, .cell 3 3, .cell 4 24]) (.cellN F.agg36 rfl jM rfl (.cell1 F.one3 rfl jM rfl (.cell1 F.one24 rfl jM rfl .nil))) (fun w hS => ?_)
      rw [htop]
      exact ⟨([], none, 0), rfl, (St.node0 0 [] hS).one1⟩
     ·have hv : Fm.validB t1 = true := by simpa using h31
      have htop : Fm.top text = (t1, 0, 0) := by simp only [Fm.top, hl8, if_false, hn, hr, hx, ne_eq, not_true_eq_false, hv, if_true]
      refine jN 15 ?_
      refine WQ.retD (g := 29) (us := []) (cap := [pp b2, pp b3, pp b4]) F.fun29 (fun w hS => (catch_idle b2 b3 b4 w).mono (fun e u2 w2 h => ⟨h.1, h.2.1, hS.call0 h.2.2⟩)) rfl (rs := [.cell 2 36, .cell 3 3, .cell 4 24]) (.cellN F.agg36 rfl jM rfl (.cell1 F.one3 rfl jM rfl (.cell1 F.one24 rfl jM rfl .nil))) (fun w hS => ?_)
      rw [htop]
      exact ⟨y17, rfl, (St.pick hS (c := own y17.1 t1 (tv t1 y17.2.1 y17.2.2)) jR).one1⟩
   ·have hC := fun w hp => (pc_all b13 text hmax2 _).ch a x _ w hle hr hp
    have htop : Fm.top text = (Fm.zeroTree, b1, 4) := by simp only [Fm.top, hl8, if_false, hn, hr]
    refine jN 4 ?_
    refine WL.call1P (bs := pcell text a x) F.fun31 (fun d h => by cases h; rfl) rfl jR (fun w hS => hC w (hS.heap jM)) (fun cs => ?_)
    refine jN 1 ?_
    refine WQ.panicD (g := 29) (us := []) (cap := [pp b2, pp b3, pp b4]) (C2 := [pt b2 [Value.int .u8 0, .string (str []), .slice none 0 0] 36, pt b3 [.int .i64 (b1 : Int)] 3, pt b4 [.int .i64 4] 24]) (v := .tuple #[]) (ch2 := [{ v := .iface 68 (.agg #[.int .i64 (b1 : Int)]), recovered := true }]) F.fun29 (fun w hS => ?_) rfl (rs := [.cell 2 36, .cell 3 3, .cell 4 24]) rfl (.cellN F.agg36 rfl jM rfl (.cell1 F.one3 rfl jM rfl (.cell1 F.one24 rfl jM rfl .nil))) (fun w hS => ?_)
    ·refine (catch_trouble b2 b3 b4 b1 _ _ _ (St.ne2 (St.pick (St.pick hS (c := pt b3 [.int .i64 0] 3) jR) (c := pt b2 [Value.int .u8 0, .string (str []), .slice none 0 0] 36) jR)) (St.ne2 (St.pick (St.pick hS (c := pt b4 [.int .i64 0] 24) jR) (c := pt b2 [Value.int .u8 0, .string (str []), .slice none 0 0] 36) jR)) (St.ne2 (St.pick (St.pick hS (c := pt b4 [.int .i64 0] 24) jR) (c := pt b3 [.int .i64 0] 3) jR)) rfl rfl rfl w (hS.heap (cs := [Value.int .u8 0, .string (str []), .slice none 0 0]) jM) (hS.heap (cs := [.int .i64 0]) jM) (hS.heap (cs := [.int .i64 0]) jM)).mono (fun e u2 w2 h => ⟨h.1, h.2.1, ?_⟩)
     exact (St.call3 (St.pick (St.pick (St.pick hS (c := pt b4 [.int .i64 0] 24) jR) (c := pt b3 [.int .i64 0] 3) jR) (c := pt b2 [Value.int .u8 0, .string (str []), .slice none 0 0] 36) jR) h.2.2).sublist (List.sublist_append_left _ _)
    ·rw [htop]
     exact ⟨([], none, 0), rfl, (St.node0 0 [] hS).one1⟩
  ·have hN := fun w hp => next_c b13 text [] 0 (by simp) hmax w hp
   rw [hn] at hN
   have htop : Fm.top text = (Fm.zeroTree, a, 4) := by simp only [Fm.top, hl8, if_false, hn]
   refine jN 4 ?_
   refine WL.call1P (bs := pcell text 0 []) F.fun30 (fun d h => by cases h; rfl) rfl jR (fun w hS => hN w (hS.heap jM)) (fun cs => ?_)
   refine jN 1 ?_
   refine WQ.panicD (g := 29) (us := []) (cap := [pp b2, pp b3, pp b4]) (C2 := [pt b2 [Value.int .u8 0, .string (str []), .slice none 0 0] 36, pt b3 [.int .i64 (a : Int)] 3, pt b4 [.int .i64 4] 24]) (v := .tuple #[]) (ch2 := [{ v := .iface 68 (.agg #[.int .i64 (a : Int)]), recovered := true }]) F.fun29 (fun w hS => ?_) rfl (rs := [.cell 2 36, .cell 3 3, .cell 4 24]) rfl (.cellN F.agg36 rfl jM rfl (.cell1 F.one3 rfl jM rfl (.cell1 F.one24 rfl jM rfl .nil))) (fun w hS => ?_)
   ·refine (catch_trouble b2 b3 b4 a _ _ _ (St.ne2 (St.pick (St.pick hS (c := pt b3 [.int .i64 0] 3) jR) (c := pt b2 [Value.int .u8 0, .string (str []), .slice none 0 0] 36) jR)) (St.ne2 (St.pick (St.pick hS (c := pt b4 [.int .i64 0] 24) jR) (c := pt b2 [Value.int .u8 0, .string (str []), .slice none 0 0] 36) jR)) (St.ne2 (St.pick (St.pick hS (c := pt b4 [.int .i64 0] 24) jR) (c := pt b3 [.int .i64 0] 3) jR)) rfl rfl rfl w (hS.heap (cs := [Value.int .u8 0, .string (str []), .slice none 0 0]) jM) (hS.heap (cs := [.int .i64 0]) jM) (hS.heap (cs := [.int .i64 0]) jM)).mono (fun e u2 w2 h => ⟨h.1, h.2.1, ?_⟩)
    exact (St.call3 (St.pick (St.pick (St.pick hS (c := pt b4 [.int .i64 0] 24) jR) (c := pt b3 [.int .i64 0] 3) jR) (c := pt b2 [Value.int .u8 0, .string (str []), .slice none 0 0] 36) jR) h.2.2).sublist (List.sublist_append_left _ _)
   ·rw [htop]
    exact ⟨([], none, 0), rfl, (St.node0 0 [] hS).one1⟩

end Go.Proofs.YtkgllhkhdjodeaaGreatDoor

namespace Go.Proofs.YtkgllhkhdjodeaaGreatDoor
open Go Go.Eng Go.Proofs
namespace F
theorem by58 : ByT Tryz.prog 58 9 5 := ⟨by kernel_rfl, by kernel_rfl, by
 obtain ⟨i, h1, h2⟩ := Option.map_eq_some_iff.1 (show (Tryz.prog.info? 5).map (fun i => (i.zero, i.size, i.bytes)) = some (some (.int .u8 0), 1, 1) by kernel_rfl)
 simp only [Prod.mk.injEq] at h2
 exact ⟨i, h1, h2.1, h2.2.1, h2.2.2⟩⟩
theorem und57 : Tryz.prog.underlying 57 = some (.pointer 60) := by kernel_rfl
theorem und105 : Tryz.prog.underlying 105 = some .unsafePointer := by kernel_rfl
theorem und91 : Tryz.prog.underlying 91 = some (.pointer 5) := by kernel_rfl
theorem cells5 : Tryz.prog.cellsOf 5 = 1 := by kernel_rfl
theorem size60 : (Tryz.prog.info? 60).map (·.size) = some 2 := by kernel_rfl
theorem lies60 : liesAt Tryz.prog Tryz.prog.depth 60 (2 / Tryz.prog.cellsOf 60) 0 60 1 = true := by kernel_rfl
end F
theorem neq88 (b : Nat) (w : World) : (do eqGuard .neq 57 (.tmp 17) (.tmp 18) (pp b) (pp b); binOp .neq 57 (pp b) (pp b) : Sem Value).run Tryz.prog w = .ok (.bool false) w := by
 obtain ⟨i, hi, hs⟩ := Option.map_eq_some_iff.1 F.size60
 have : ∀ d, (Op.equalIn (d+1) 57 (pp b) (pp b)).run Tryz.prog w = .ok true w := by
  intro d
  simp [Op.equalIn, run_underlying F.und57, sizeOf, typeInfo, hi, hs, sameAddr]
 have h2 : (Op.equal 57 (pp b) (pp b)).run Tryz.prog w = .ok true w := this 9999
 have h1 : (eqGuard .neq 57 (.tmp 17) (.tmp 18) (pp b) (pp b)).run Tryz.prog w = .ok () w := by kernel_rfl
 simp only [Sem.run_bind, h1, Result.andThen_ok]
 simp only [binOp]
 simp [h2]
/-- The block of a slice value, if any. -/
def ob (v : Value) : List Nat := match v.ownBlock with | some k => [k] | none => []
theorem mem_ob {v : Value} {k : Nat} : k ∈ ob v ↔ v.ownBlock = some k := by
 unfold ob
 cases v.ownBlock with
 | none => simp
 | some j => simp [eq_comm]

theorem copyCheck_c (b : Nat) (q v : Value) (hq : q = .pointer none ∨ q = pp b) (w : World) (hp : w.heap[b]? = some (.cells [q, v].toArray 60 (0, 0))) :
  Calls Tryz.prog 48 [pp b].toArray w fun e w' => e = .returned (.tuple #[]) ∧ St w [b] [pt b [pp b, v] 60] w' := by
 obtain ⟨i91, hi91, hs91⟩ := Option.map_eq_some_iff.1 F.size60
 refine enter Tryz.func48 rfl Tryz.ntmps48 rfl (St.init1 hp) ?_
 refine jN 1 ?_
 rcases hq with rfl | rfl
 ·refine jN 10 ?_
  refine WL.bin rfl rfl rfl (v := .bool true) (fun w => by kernel_rfl) ?_
  refine jN 9 ?_
  refine WL.convert rfl rfl (v := pp b) (fun w hS => Lib.run_to_unsafe w ⟨b, 0, none⟩ F.und57 F.und105 hi91 (by rw [hs91]; decide) (e := 60) (cells := 2) (by simp [World.shape?, hS.heap (cs := [.pointer none, v]) (e := 60) jM]) (Nat.zero_lt_succ 1)) ?_
  refine jN 1 ?_
  refine WL.callE rfl rfl (v := pp b) (fun w => by kernel_rfl) ?_
  refine jN 1 ?_
  refine WL.convert rfl rfl (v := pp b) (fun w hS => Lib.run_from_unsafe w ⟨b, 0, none⟩ F.und105 F.und57 hi91 (e := 60) (cells := 2) (by simp [World.shape?, hS.heap (cs := [.pointer none, v]) (e := 60) jM]) F.lies60) ?_
  refine jN 7 ?_
  exact WQ.fin (rs := []) rfl .nil (fun w hS => ⟨rfl, hS⟩)
 ·refine jN 10 ?_
  refine WL.bin rfl rfl rfl (v := .bool false) (fun w => by kernel_rfl) ?_
  refine jN 16 ?_
  refine WL.bin rfl rfl rfl (v := .bool false) (fun w => neq88 b w) ?_
  refine jN 4 ?_
  exact WQ.fin (rs := []) rfl .nil (fun w hS => ⟨rfl, hS⟩)

theorem bcells_append (l s : List UInt8) : bcells (l ++ s) = bcells l ++ bcells s := by simp [bcells]
/-- A builder of strings that has these bytes. -/
def bld (b : Nat) (q v : Value) (l : List UInt8) : List Chunk := [pt b [q, v] 60, rowc v l.length 5 1 (bcells l)]

theorem WriteString_c (b : Nat) (q v : Value) (l s : List UInt8) (hq : q = .pointer none ∨ q = pp b) (hb : l.length + s.length ≤ 140737488355328) (w : World) (hS0 : St w (b :: ob v) (bld b q v l) w) :
  Calls Tryz.prog 26 [pp b, .string (str s)].toArray w fun e w' => ∃ x : Option Addr × Nat, e = .returned (.tuple #[.int .i64 (s.length : Int), .nilIface]) ∧ St w (b :: ob v) (bld b (pp b) (.slice x.1 (l ++ s).length x.2) (l ++ s)) w' := by
 refine enter Tryz.func26 rfl Tryz.ntmps26 rfl (C := [pt b [q, v] 60, rowc v l.length 5 1 (bcells l)]) hS0 ?_
 refine jN 13 ?_
 refine WL.call1S (v := .tuple #[]) (bs := [q, v]) (bs' := [pp b, v]) (e := 60) F.fun48 rfl rfl jR (fun w hS => copyCheck_c b q v hq w (hS.heap jM)) ?_
 refine jN 17 ?_
 refine WL.appendS F.by58 rfl rfl rfl jR hb (fun a cap => ?_)
 refine jN 21 ?_
 refine WQ.ret (rs := [.tmp 4, .tmp 5]) rfl (.tmp rfl (.tmp rfl .nil)) (fun w hS => ?_)
 refine ⟨(a, cap), rfl, ?_⟩
 have h2 := (St.pick (St.pick hS (c := rowc (.slice a (l.length + s.length) cap) (l.length + s.length) 5 1 (bcells l ++ bcells s)) jR) (c := pt b [pp b, .slice a (l.length + s.length) cap] 60) jR)
 simpa only [bld, List.length_append, bcells_append] using h2.two2

theorem String_c (b : Nat) (q : Value) (a : Option Addr) (cap : Nat) (l : List UInt8) (hne : l ≠ []) (hb : l.length ≤ 140737488355328) (w : World) (hS0 : St w (b :: ob (.slice a l.length cap)) (bld b q (.slice a l.length cap) l) w) :
  Calls Tryz.prog 28 [pp b].toArray w fun e w' => e = .returned (.string (str l)) ∧ St w (b :: ob (.slice a l.length cap)) [pt b [q, .slice a l.length cap] 60] w' := by
 have hcap : cap ≠ 0 := by
  have hro : w.ownsRow 0 5 1 (.slice a l.length cap) l.length (bcells l) := hS0.ok (rowc (.slice a l.length cap) l.length 5 1 (bcells l)) jM
  have hpos := List.length_pos_iff.2 hne
  rcases hro.2 with ⟨_, h0⟩ | ⟨g, cp, cur, hv, _, _, hle, _⟩
  ·omega
  ·injection hv with _ _ hc
   omega
 refine enter Tryz.func28 rfl Tryz.ntmps28 rfl (C := [pt b [q, .slice a l.length cap] 60, rowc (.slice a l.length cap) l.length 5 1 (bcells l)]) hS0 ?_
 refine jN 7 ?_
 refine WC.draws [([4, 10], fun w => w.cell? ⟨b, 1, none⟩ = some (.slice a l.length cap)), ([10], fun w => w.cell? ⟨b, 1, none⟩ = some (.slice a l.length cap))] (by kernel_rfl) (fun w hS => facts_cons (hS.cell jM rfl) (facts_cons (hS.cell jM rfl) (facts_nil))) ?_
 refine jT 0 rfl (Yl.move rfl) ?_
 refine jT 1 rfl (Yl.nilCheck rfl) ?_
 refine jT 2 rfl (Yl.fieldAddr0 F.fld60_1 rfl) ?_
 refine jF 3 0 rfl rfl (Yl.load1 F.one58 rfl) ?_
 refine jT 5 rfl (Yl.move rfl) ?_
 refine jT 6 rfl (Yl.nilCheck rfl) ?_
 refine jT 7 rfl (Yl.fieldAddr0 F.fld60_1 rfl) ?_
 refine jF 8 1 rfl rfl (Yl.load1 F.one58 rfl) ?_
 refine jT 9 rfl (Yl.lenSl F.und58 rfl) ?_
 refine jA 4 rfl ?_
 refine WL.sliceData rfl rfl (.inr hcap) ?_
 refine WD.on (closed_of (by kernel_rfl)) (fun w hS => Sx.gone rfl (Sx.keep (hS.cell jM rfl) (Sx.none))) ?_
 refine jA 10 rfl ?_
 refine WL.unsafeString F.und91 F.cells5 rfl rfl rfl jR hne hb ?_
 refine jG ?_
 refine jT 11 rfl (Yl.assign rfl) ?_
 refine jD ?_
 refine jN 2 ?_
 exact WQ.ret (rs := [.tmp 2]) rfl (.tmp rfl .nil) (fun w hS => ⟨rfl, hS⟩)

end Go.Proofs.YtkgllhkhdjodeaaGreatDoor

namespace Go.Proofs.YtkgllhkhdjodeaaGreatDoor
open Go Go.Eng Go.Proofs
/-- The bytes of a slice that lies in the older world's memory. -/
def Bare (w : World) (O : List Nat) (a : Option Addr) (bs : List Int) : Prop := ∀ i u, bs[i]? = some u → ∃ b off, a = some ⟨b, off, none⟩ ∧ b ∉ O ∧ w.cell? ⟨b, off + i, none⟩ = some (.int .u8 u)
theorem contains_take {bs : List Int} {v u : Int} {i : Nat} (h : bs[i]? = some u) : (bs.take (i + 1)).contains v = ((bs.take i).contains v || (v == u)) := by
 rw [List.take_add_one, h]
 rw [Bool.eq_iff_iff]
 simp [List.contains_eq_mem]

theorem indexU_c (bs : List Int) (a : Option Addr) (c : Nat) (v : Int) (hlen : bs.length ≤ 1000) (w : World) (hb : Bare w [] a bs) :
  Calls Tryz.prog 57 [.slice a bs.length c, .int .u8 v].toArray w fun e w' => ∃ r : { r : Int // decide (0 ≤ r) = bs.contains v }, e = .returned (.int .i64 r.1) ∧ St w [] [] w' := by
 refine enter Tryz.func57 rfl Tryz.ntmps57 rfl (St.init _) ?_
 refine jN 18 ?_
 refine WC.loop (α := Nat) (fun i => i ≤ bs.length ∧ (bs.take i).contains v = false) (fun i => [(0, .slice a bs.length c), (1, .int .u8 v), (7, .int .i64 (bs.length : Int)), (8, .int .i64 (i : Int))]) (fun _ => []) (fun i => bs.length - i) (0) ?_ ?_ ?_ ?_
 ·exact ⟨Nat.zero_le _, rfl⟩
 ·exact ⟨rfl, rfl, rfl, rfl, trivial⟩
 ·rfl
 rintro i ⟨hi, hno⟩
 refine jN 7 ?_
 refine WC.cond rfl (fun h9 => ?_) (fun h9 => ?_)
 ·have hlt : i < bs.length := by simpa using h9
  obtain ⟨u, hu⟩ : ∃ u, bs[i]? = some u := ⟨_, List.getElem?_eq_getElem hlt⟩
  obtain ⟨b, off, rfl, hbo, hcell⟩ := hb i u hu
  refine jN 21 ?_
  refine WL.indexAddr F.sl58 rfl rfl rfl hlt ?_
  refine jN 1 ?_
  refine WL.load1 F.one5 rfl rfl (v := .int .u8 u) (fun w hS => hS.oldc (by simpa using hcell) (by simp)) ?_
  refine jN 4 ?_
  refine WC.cond rfl (fun h16 => ?_) (fun h16 => ?_)
  ·refine jN 14 ?_
   refine WQ.ret (rs := [.tmp 4]) rfl (.tmp rfl .nil) (fun w hS => ⟨⟨(i : Int), ?_⟩, rfl, hS⟩)
   have h2 : bs.contains v = true := by
    have hvu : v = u := by simpa using h16
    subst hvu
    simpa using List.mem_of_getElem? hu
   rw [h2]; simp
  ·refine jN 9 ?_
   refine WQ.back (i + 1) ?_ ?_ ?_ ?_
   ·exact ⟨by omega, by rw [contains_take hu, hno, h16]; rfl⟩
   ·omega
   ·exact ⟨rfl, rfl, rfl, rfl, trivial⟩
   ·rfl
 ·have hie : i = bs.length := by simp at h9; omega
  subst hie
  rw [List.take_length] at hno
  refine jN 12 ?_
  refine WQ.ret (rs := [.tmp 4]) rfl (.tmp rfl .nil) (fun w hS => ⟨⟨-1, ?_⟩, rfl, hS⟩)
  rw [hno]; rfl

theorem containsU_c (bs : List Int) (a : Option Addr) (c : Nat) (v : Int) (hlen : bs.length ≤ 1000) (w : World) (hb : Bare w [] a bs) : Pure Tryz.prog 34 [.slice a bs.length c, .int .u8 v] w (.bool (bs.contains v)) := by
 refine enter Tryz.func34 rfl Tryz.ntmps34 rfl (St.init _) ?_
 refine jN 13 ?_
 refine jC (β := { r : Int // decide (0 ≤ r) = bs.contains v }) (res := fun r => .int .i64 r.1) (cs := fun _ => []) F.fun57 rfl (fun w hS _ => indexU_c bs a c v hlen w (fun i u hu => ?_)) (fun r => ?_)
 ·obtain ⟨b, off, h1, h2, h3⟩ := hb i u hu
  exact ⟨b, off, h1, by simp, hS.oldc h3 (by simp)⟩
 refine jN 7 ?_
 refine WQ.ret (rs := [.tmp 4]) rfl (.tmp rfl .nil) (fun w hS => ⟨?_, hS⟩)
 exact congrArg (fun b => Ending.returned (Value.bool b)) r.2

theorem sign_c (op i : Int) (w : World) : Pure Tryz.prog 36 [.int .u8 op, .int .i64 i] w (.string (str (Fm.signS op i))) := by
 refine enter Tryz.func36 rfl Tryz.ntmps36 rfl (St.init _) ?_
 refine jN 22 ?_
 refine WC.cond rfl (fun h6 => ?_) (fun h6 => ?_)
 ·refine jN 9 ?_
  exact WQ.ret (rs := [.tmp 4]) rfl (.tmp rfl .nil) (fun w hS => ⟨by simp_all [tup, Fm.signS, str], hS⟩)
 ·refine jN 8 ?_
  refine WC.cond rfl (fun h8 => ?_) (fun h8 => ?_)
  ·refine jN 9 ?_
   exact WQ.ret (rs := [.tmp 4]) rfl (.tmp rfl .nil) (fun w hS => ⟨by simp_all [tup, Fm.signS, str], hS⟩)
  ·refine jN 8 ?_
   refine WC.cond rfl (fun h10 => ?_) (fun h10 => ?_)
   ·refine jN 9 ?_
    exact WQ.ret (rs := [.tmp 4]) rfl (.tmp rfl .nil) (fun w hS => ⟨by simp_all [tup, Fm.signS, str], hS⟩)
   ·refine jN 8 ?_
    refine WC.cond rfl (fun h12 => ?_) (fun h12 => ?_)
    ·refine jN 9 ?_
     exact WQ.ret (rs := [.tmp 4]) rfl (.tmp rfl .nil) (fun w hS => ⟨by simp_all [tup, Fm.signS, str], hS⟩)
    ·refine jN 8 ?_
     refine WC.cond rfl (fun h14 => ?_) (fun h14 => ?_)
     ·refine jN 9 ?_
      exact WQ.ret (rs := [.tmp 4]) rfl (.tmp rfl .nil) (fun w hS => ⟨by simp_all [tup, Fm.signS, str], hS⟩)
     ·refine jN 12 ?_
      refine WC.cond rfl (fun h17 => ?_) (fun h17 => ?_)
      ·refine jN 8 ?_
       exact WQ.ret (rs := [.tmp 4]) rfl (.tmp rfl .nil) (fun w hS => ⟨by simp_all [tup, Fm.signS, str], hS⟩)
      ·refine jN 9 ?_
       exact WQ.ret (rs := [.tmp 4]) rfl (.tmp rfl .nil) (fun w hS => ⟨by simp_all [tup, Fm.signS, str], hS⟩)

theorem bare_c (op i : Int) (w : World) :
  Calls Tryz.prog 37 [.int .u8 op, .int .i64 i].toArray w fun e w' => ∃ x : Nat × Option Addr × Nat, (x.2.1 = some ⟨x.1, 0, none⟩ ∨ Fm.bareN op i = 0) ∧ e = .returned (.slice x.2.1 (Fm.bareL.take (Fm.bareN op i)).length x.2.2) ∧ St w [] [pt x.1 (Fm.bareL.map (Value.int .u8)) 5] w' := by
 refine enter Tryz.func37 rfl Tryz.ntmps37 rfl (St.init _) ?_
 refine jN 9 ?_
 refine WL.buildSlice F.sl58 F.ez58 rfl rfl rfl rfl jB rfl (fun b6 => ?_)
 refine jN 16 ?_
 refine WC.cond rfl (fun h7 => ?_) (fun h7 => ?_)
 ·refine jN 9 ?_
  refine WQ.ret (rs := [.tmp 4]) rfl (.tmp rfl .nil) (fun w hS => ?_)
  first | (refine ⟨(b6, some ⟨b6, 0, none⟩, 6), .inl rfl, ?_, hS⟩; simp_all [tup, Fm.bareN, Fm.bareL]; done) | (refine ⟨(b6, none, 0), .inr ?_, ?_, hS⟩ <;> simp_all [tup, Fm.bareN, Fm.bareL]; done)
 ·refine jN 10 ?_
  refine WC.cond rfl (fun h10 => ?_) (fun h10 => ?_)
  ·refine jN 5 ?_
   refine WL.y (F := fun _ => True) (Yl.sliceSlTo (n := 1) F.sl58 rfl rfl (by decide)) rfl (fun _ _ => trivial) ?_
   refine jN 7 ?_
   refine WQ.ret (rs := [.tmp 4]) rfl (.tmp rfl .nil) (fun w hS => ?_)
   first | (refine ⟨(b6, some ⟨b6, 0, none⟩, 6), .inl rfl, ?_, hS⟩; simp_all [tup, Fm.bareN, Fm.bareL]; done) | (refine ⟨(b6, none, 0), .inr ?_, ?_, hS⟩ <;> simp_all [tup, Fm.bareN, Fm.bareL]; done)
  ·refine jN 10 ?_
   refine WC.cond rfl (fun h15 => ?_) (fun h15 => ?_)
   ·refine jN 5 ?_
    refine WL.y (F := fun _ => True) (Yl.sliceSlTo (n := 2) F.sl58 rfl rfl (by decide)) rfl (fun _ _ => trivial) ?_
    refine jN 7 ?_
    refine WQ.ret (rs := [.tmp 4]) rfl (.tmp rfl .nil) (fun w hS => ?_)
    first | (refine ⟨(b6, some ⟨b6, 0, none⟩, 6), .inl rfl, ?_, hS⟩; simp_all [tup, Fm.bareN, Fm.bareL]; done) | (refine ⟨(b6, none, 0), .inr ?_, ?_, hS⟩ <;> simp_all [tup, Fm.bareN, Fm.bareL]; done)
   ·refine jN 8 ?_
    refine WA.splitB (i := 23) rfl (fun h23 => ?_) (fun h23 => ?_)
    ·refine jN 12 ?_
     refine WC.cond rfl (fun h20 => ?_) (fun h20 => ?_)
     ·refine jN 5 ?_
      refine WL.y (F := fun _ => True) (Yl.sliceSlTo (n := 3) F.sl58 rfl rfl (by decide)) rfl (fun _ _ => trivial) ?_
      refine jN 7 ?_
      refine WQ.ret (rs := [.tmp 4]) rfl (.tmp rfl .nil) (fun w hS => ?_)
      first | (refine ⟨(b6, some ⟨b6, 0, none⟩, 6), .inl rfl, ?_, hS⟩; simp_all [tup, Fm.bareN, Fm.bareL]; done) | (refine ⟨(b6, none, 0), .inr ?_, ?_, hS⟩ <;> simp_all [tup, Fm.bareN, Fm.bareL]; done)
     ·refine jN 8 ?_
      refine WA.splitB (i := 32) rfl (fun h32 => ?_) (fun h32 => ?_)
      ·refine jN 16 ?_
       refine WL.y (F := fun _ => True) (Yl.sliceSlTo (n := 4) F.sl58 rfl rfl (by decide)) rfl (fun _ _ => trivial) ?_
       refine jN 7 ?_
       refine WQ.ret (rs := [.tmp 4]) rfl (.tmp rfl .nil) (fun w hS => ?_)
       first | (refine ⟨(b6, some ⟨b6, 0, none⟩, 6), .inl rfl, ?_, hS⟩; simp_all [tup, Fm.bareN, Fm.bareL]; done) | (refine ⟨(b6, none, 0), .inr ?_, ?_, hS⟩ <;> simp_all [tup, Fm.bareN, Fm.bareL]; done)
      ·refine jN 12 ?_
       refine WC.cond rfl (fun h29 => ?_) (fun h29 => ?_)
       ·refine jN 5 ?_
        refine WL.y (F := fun _ => True) (Yl.sliceSlTo (n := 4) F.sl58 rfl rfl (by decide)) rfl (fun _ _ => trivial) ?_
        refine jN 7 ?_
        refine WQ.ret (rs := [.tmp 4]) rfl (.tmp rfl .nil) (fun w hS => ?_)
        first | (refine ⟨(b6, some ⟨b6, 0, none⟩, 6), .inl rfl, ?_, hS⟩; simp_all [tup, Fm.bareN, Fm.bareL]; done) | (refine ⟨(b6, none, 0), .inr ?_, ?_, hS⟩ <;> simp_all [tup, Fm.bareN, Fm.bareL]; done)
       ·refine jN 10 ?_
        refine WC.cond rfl (fun h38 => ?_) (fun h38 => ?_)
        ·refine jN 5 ?_
         refine WL.y (F := fun _ => True) (Yl.sliceSlTo (n := 5) F.sl58 rfl rfl (by decide)) rfl (fun _ _ => trivial) ?_
         refine jN 7 ?_
         refine WQ.ret (rs := [.tmp 4]) rfl (.tmp rfl .nil) (fun w hS => ?_)
         first | (refine ⟨(b6, some ⟨b6, 0, none⟩, 6), .inl rfl, ?_, hS⟩; simp_all [tup, Fm.bareN, Fm.bareL]; done) | (refine ⟨(b6, none, 0), .inr ?_, ?_, hS⟩ <;> simp_all [tup, Fm.bareN, Fm.bareL]; done)
        ·refine jN 12 ?_
         refine WQ.ret (rs := [.tmp 4]) rfl (.tmp rfl .nil) (fun w hS => ?_)
         first | (refine ⟨(b6, some ⟨b6, 0, none⟩, 6), .inl rfl, ?_, hS⟩; simp_all [tup, Fm.bareN, Fm.bareL]; done) | (refine ⟨(b6, none, 0), .inr ?_, ?_, hS⟩ <;> simp_all [tup, Fm.bareN, Fm.bareL]; done)
    ·refine jN 19 ?_
     refine WA.splitB (i := 32) rfl (fun h32 => ?_) (fun h32 => ?_)
     ·refine jN 16 ?_
      refine WL.y (F := fun _ => True) (Yl.sliceSlTo (n := 4) F.sl58 rfl rfl (by decide)) rfl (fun _ _ => trivial) ?_
      refine jN 7 ?_
      refine WQ.ret (rs := [.tmp 4]) rfl (.tmp rfl .nil) (fun w hS => ?_)
      first | (refine ⟨(b6, some ⟨b6, 0, none⟩, 6), .inl rfl, ?_, hS⟩; simp_all [tup, Fm.bareN, Fm.bareL]; done) | (refine ⟨(b6, none, 0), .inr ?_, ?_, hS⟩ <;> simp_all [tup, Fm.bareN, Fm.bareL]; done)
     ·refine jN 12 ?_
      refine WC.cond rfl (fun h29 => ?_) (fun h29 => ?_)
      ·refine jN 5 ?_
       refine WL.y (F := fun _ => True) (Yl.sliceSlTo (n := 4) F.sl58 rfl rfl (by decide)) rfl (fun _ _ => trivial) ?_
       refine jN 7 ?_
       refine WQ.ret (rs := [.tmp 4]) rfl (.tmp rfl .nil) (fun w hS => ?_)
       first | (refine ⟨(b6, some ⟨b6, 0, none⟩, 6), .inl rfl, ?_, hS⟩; simp_all [tup, Fm.bareN, Fm.bareL]; done) | (refine ⟨(b6, none, 0), .inr ?_, ?_, hS⟩ <;> simp_all [tup, Fm.bareN, Fm.bareL]; done)
      ·refine jN 10 ?_
       refine WC.cond rfl (fun h38 => ?_) (fun h38 => ?_)
       ·refine jN 5 ?_
        refine WL.y (F := fun _ => True) (Yl.sliceSlTo (n := 5) F.sl58 rfl rfl (by decide)) rfl (fun _ _ => trivial) ?_
        refine jN 7 ?_
        refine WQ.ret (rs := [.tmp 4]) rfl (.tmp rfl .nil) (fun w hS => ?_)
        first | (refine ⟨(b6, some ⟨b6, 0, none⟩, 6), .inl rfl, ?_, hS⟩; simp_all [tup, Fm.bareN, Fm.bareL]; done) | (refine ⟨(b6, none, 0), .inr ?_, ?_, hS⟩ <;> simp_all [tup, Fm.bareN, Fm.bareL]; done)
       ·refine jN 12 ?_
        refine WQ.ret (rs := [.tmp 4]) rfl (.tmp rfl .nil) (fun w hS => ?_)
        first | (refine ⟨(b6, some ⟨b6, 0, none⟩, 6), .inl rfl, ?_, hS⟩; simp_all [tup, Fm.bareN, Fm.bareL]; done) | (refine ⟨(b6, none, 0), .inr ?_, ?_, hS⟩ <;> simp_all [tup, Fm.bareN, Fm.bareL]; done)

end Go.Proofs.YtkgllhkhdjodeaaGreatDoor

namespace Go.Proofs.YtkgllhkhdjodeaaGreatDoor
open Go Go.Eng Go.Proofs
section
variable {P : Program} {w0 : World} {O : List Nat} {ops : Array Oper} {Q : Exit → Act → World → Prop} {N : Nat} {D : List Deferred} {L : FL} {C : List Chunk} {K : Act → World → Prop}
variable {d : Nat} {ty : TypeId} {pos : String} {af : Array Edge}
theorem bld_fp1 {b : Nat} {q v : Value} {n : Nat} {xs : List Value} : ∀ c ∈ [pt b [q, v] 60, rowc v n 5 1 xs], ∀ k, c.fp k → k ∈ b :: ob v := by
 intro c hc k hk
 simp only [List.mem_cons, List.not_mem_nil, or_false] at hc
 rcases hc with rfl | rfl
 ·have : k = b := hk
  simp [this]
 ·exact List.mem_cons_of_mem _ (mem_ob.2 hk)
theorem bld_fp2 {b : Nat} {q v : Value} {n : Nat} {xs : List Value} : ∀ k ∈ b :: ob v, ∃ c ∈ [pt b [q, v] 60, rowc v n 5 1 xs], c.fp k := by
 intro k hk
 rcases List.mem_cons.1 hk with rfl | hk
 ·exact ⟨_, List.mem_cons_self .., rfl⟩
 ·exact ⟨_, List.mem_cons_of_mem _ (List.mem_cons_self ..), mem_ob.1 hk⟩
/-- A call that gets the builder. -/
theorem WL.callB {β : Type} {f : FuncId} {xs : List Operand} {tys : Array TypeId} {vs : List Value} {res : β → Value} {c1 c2 : β → Chunk} {q v : Value} {l : List UInt8} {b : Nat} {Ca C1 : List Chunk}
  (hf : funB P f = some true) (hd : Nat.blt d N = true) (hx : evs L xs = some vs) (hr1 : Rem (pt b [q, v] 60) C Ca) (hr2 : Rem (rowc v l.length 5 1 (bcells l)) Ca C1)
  (hc : ∀ w, St w0 O (pt b [q, v] 60 :: rowc v l.length 5 1 (bcells l) :: C1) w → St w (b :: ob v) (bld b q v l) w → Calls P f vs.toArray w fun e w' => ∃ x, e = .returned (res x) ∧ St w (b :: ob v) [c1 x, c2 x] w')
  (h : ∀ x, WA w0 O K N D ((d, res x) :: L) (c1 x :: c2 x :: C1)) :
  WK P w0 O ops Q ⟨some d, .call { callee := .value (.func f), args := xs.toArray, argTypes := tys }, ty, pos, af, none⟩ K N D L C :=
 WL.callC (Cs := [pt b [q, v] 60, rowc v l.length 5 1 (bcells l)]) (cs := fun x => [c1 x, c2 x]) (O' := b :: ob v) hf (fun d' e => by cases e; exact hd) hx (hr1.perm.trans (hr2.perm.cons _)) bld_fp1 bld_fp2 hc h
theorem WL.callFB {β : Type} {f : FuncId} {x : Operand} {xs : List Operand} {tys : Array TypeId} {vs us cap : List Value} {res : β → Value} {c1 c2 : β → Chunk} {q v : Value} {l : List UInt8} {b : Nat} {Ca C1 : List Chunk}
  (hf : funB P f = some true) (hd : Nat.blt d N = true) (hfv : ev L x = some (.func (.func f) us.toArray cap.toArray)) (hx : evs L xs = some vs) (hr1 : Rem (pt b [q, v] 60) C Ca) (hr2 : Rem (rowc v l.length 5 1 (bcells l)) Ca C1)
  (hc : ∀ w, St w0 O (pt b [q, v] 60 :: rowc v l.length 5 1 (bcells l) :: C1) w → St w (b :: ob v) (bld b q v l) w → Calls P f (us ++ vs ++ cap).toArray w fun e w' => ∃ x, e = .returned (res x) ∧ St w (b :: ob v) [c1 x, c2 x] w')
  (h : ∀ x, WA w0 O K N D ((d, res x) :: L) (c1 x :: c2 x :: C1)) :
  WK P w0 O ops Q ⟨some d, .call { callee := .value x, args := xs.toArray, argTypes := tys }, ty, pos, af, none⟩ K N D L C :=
 WL.callFC (Cs := [pt b [q, v] 60, rowc v l.length 5 1 (bcells l)]) (cs := fun x => [c1 x, c2 x]) (O' := b :: ob v) hf (fun d' e => by cases e; exact hd) hfv hx (hr1.perm.trans (hr2.perm.cons _)) bld_fp1 bld_fp2 hc h
end

/-- What the two closures of Print stand on: the tree, the boxes that hold the closures. -/
structure PEnv (w : World) (O : List Nat) (bo bp bk : Nat) (t : Tree) (G : List Nat) (a : Option Addr) (c : Nat) : Prop where
 rd : rdT w t G (tv t a c)
 nf : ∀ k ∈ G, k ∉ O
 h5 : w.heap[bp]? = some (.cells [Value.func (.func 35) [].toArray [pp bo, pp bk].toArray].toArray 75 (0, 0))
 h6 : w.heap[bk]? = some (.cells [Value.func (.func 33) [].toArray [pp bp, pp bo].toArray].toArray 77 (0, 0))
 n5 : bp ∉ O
 n6 : bk ∉ O
theorem PEnv.next {w0 w : World} {O O' : List Nat} {C : List Chunk} {bo bp bk : Nat} {t : Tree} {G : List Nat} {a : Option Addr} {c : Nat} (hE : PEnv w0 O bo bp bk t G a c) (hS : St w0 O C w) (hO : ∀ k ∈ O', ∃ ch ∈ C, ch.fp k) :
  PEnv w O' bo bp bk t G a c := by
 have hn : ∀ k, k < w0.heap.size → k ∉ O → k ∉ O' := fun k hlt hk hk' => by
  obtain ⟨ch, h1, h2⟩ := hO k hk'
  exact hk ((hS.bnd ch h1 k h2).2 hlt)
 exact ⟨hS.oldT hE.rd (fun k hk => ⟨rdT_lt hE.rd k hk, hE.nf k hk⟩), fun k hk => hn k (rdT_lt hE.rd k hk) (hE.nf k hk), hS.oldh hE.h5 hE.n5, hS.oldh hE.h6 hE.n6, hn _ (lt_of_heap hE.h5) hE.n5, hn _ (lt_of_heap hE.h6) hE.n6⟩
theorem PEnv.nextB {w0 w : World} {O : List Nat} {C1 : List Chunk} {bo bp bk : Nat} {t : Tree} {G : List Nat} {a : Option Addr} {c : Nat} {q v : Value} {n : Nat} {xs : List Value} (hE : PEnv w0 O bo bp bk t G a c) (hS : St w0 O (pt bo [q, v] 60 :: rowc v n 5 1 xs :: C1) w) :
  PEnv w (bo :: ob v) bo bp bk t G a c := hE.next hS (fun k hk => by
 obtain ⟨ch, h1, h2⟩ := bld_fp2 (b := bo) (q := q) (v := v) (n := n) (xs := xs) k hk
 exact ⟨ch, List.mem_append_left C1 h1, h2⟩)
theorem PEnv.kid {w : World} {O : List Nat} {bo bp bk : Nat} {t k : Tree} {G : List Nat} {a : Option Addr} {c i : Nat} (hE : PEnv w O bo bp bk t G a c) (hi : t.kids[i]? = some k) :
  ∃ b off F1 a1 c1, a = some ⟨b, off, none⟩ ∧ b ∉ O ∧ PEnv w O bo bp bk k F1 a1 c1 ∧
   (∀ j v, [Value.int .u8 k.op, .string (str k.name), .slice a1 k.kids.length c1][j]? = some v → w.cell? ⟨b, off + i * 3 + j, none⟩ = some v) := by
 obtain ⟨b, off, F1, a1, c1, ha, hb, hF, hr, hc⟩ := rdT_at hE.rd hi
 exact ⟨b, off, F1, a1, c1, ha, hE.nf b hb, ⟨hr, fun x hx => hE.nf x (hF x hx), hE.h5, hE.h6, hE.n5, hE.n6⟩, hc⟩

/-- The builder's own head, and the row's address and room. -/
abbrev PX (bo : Nat) : Type := { x : Value × Option Addr × Nat // x.1 = .pointer none ∨ x.1 = pp bo }
def PutPost (w : World) (bo : Nat) (v : Value) (l : List UInt8) (e : Ending) (w' : World) : Prop :=
 ∃ x : PX bo, e = .returned (.tuple #[]) ∧ St w (bo :: ob v) [pt bo [x.1.1, .slice x.1.2.1 l.length x.1.2.2] 60, rowc (.slice x.1.2.1 l.length x.1.2.2) l.length 5 1 (bcells l)] w'
def PutC (t : Tree) : Prop := ∀ G a c q ba bc l l2 bo bp bk w, l2 = l ++ Fm.putS t → PEnv w (bo :: ob (.slice ba (List.length l) bc)) bo bp bk t G a c → Fm.notOk t = true → (q = .pointer none ∨ q = pp bo) → List.length l + (Fm.putS t).length ≤ 70368744177664 →
 St w (bo :: ob (.slice ba l.length bc)) (bld bo q (.slice ba l.length bc) l) w → Calls Tryz.prog 35 [tv t a c, pp bo, pp bk].toArray w (PutPost w bo (.slice ba l.length bc) l2)
def KidC (t : Tree) : Prop := ∀ G a c q ba bc l l2 bs sa sc bo bp bk w, l2 = l ++ Fm.kidS t bs → PEnv w (bo :: ob (.slice ba (List.length l) bc)) bo bp bk t G a c → Bare w (bo :: ob (.slice ba l.length bc)) sa bs → List.length bs ≤ 1000 → Fm.notOk t = true → (q = .pointer none ∨ q = pp bo) →
 List.length l + (Fm.kidS t bs).length ≤ 70368744177664 → St w (bo :: ob (.slice ba l.length bc)) (bld bo q (.slice ba l.length bc) l) w →
 Calls Tryz.prog 33 [tv t a c, .slice sa bs.length sc, pp bp, pp bo].toArray w (PutPost w bo (.slice ba l.length bc) l2)
theorem WriteString_e (b : Nat) (q v : Value) (l s l2 : List UInt8) (n : Nat) (hl2 : l2 = l ++ s) (hq : q = .pointer none ∨ q = pp b) (hb : l.length + s.length ≤ 140737488355328) (hn : n = s.length) (w : World) (hS0 : St w (b :: ob v) (bld b q v l) w) :
  Calls Tryz.prog 26 [pp b, .string (str s)].toArray w fun e w' => ∃ x : Option Addr × Nat, e = .returned (.tuple #[.int .i64 (n : Int), .nilIface]) ∧ St w (b :: ob v) (bld b (pp b) (.slice x.1 l2.length x.2) l2) w' := by
 subst hl2; subst hn
 exact WriteString_c b q v l s hq hb w hS0
theorem Bare.of_new {w0 w : World} {O : List Nat} {C1 : List Chunk} {b g k : Nat} {q v : Value} {n : Nat} {xs : List Value} {bs : List Int} {sa : Option Addr} (hS : St w0 O (pt b [q, v] 60 :: rowc v n 5 1 xs :: C1) w) (hm : pt g (bs.map (Value.int .u8)) 5 ∈ C1)
  (hs : sa = some ⟨g, 0, none⟩ ∨ k = 0) : Bare w (b :: ob v) sa (bs.take k) := by
 intro i u hu
 rcases hs with hs | hs
 ·refine ⟨g, 0, hs, fun hk => ?_, ?_⟩
  ·obtain ⟨ch, h1, h2⟩ := bld_fp2 (b := b) (q := q) (v := v) (n := n) (xs := xs) g hk
   have hd := List.pairwise_append.1 (show ([pt b [q, v] 60, rowc v n 5 1 xs] ++ C1).Pairwise _ from hS.disj)
   exact hd.2.2 ch h1 _ hm g h2 rfl
  ·rw [Nat.zero_add]
   refine hS.cell (cs := bs.map (Value.int .u8)) (e := 5) (List.mem_cons_of_mem _ (List.mem_cons_of_mem _ hm)) ?_
   have : bs[i]? = some u := by
    rw [List.getElem?_take] at hu
    split at hu
    ·exact hu
    ·cases hu
   simp [this]
 ·subst hs
  simp at hu
theorem putK_drop {op : Int} {i : Nat} {ts : List Tree} {k : Tree} (h : ts[i]? = some k) :
  Fm.putK op (i : Int) (ts.drop i) = (if (0 : Int) < (i : Int) then [32] ++ Fm.signS op (i : Int) ++ [32] else []) ++ Fm.kidS k (Fm.bareL.take (Fm.bareN op (i : Int))) ++ Fm.putK op ((i + 1 : Nat) : Int) (ts.drop (i + 1)) := by
 obtain ⟨hi, he⟩ := List.getElem?_eq_some_iff.1 h
 rw [List.drop_eq_getElem_cons hi, he]
 simp only [Fm.putK, Fm.kidS]
 rfl
theorem notOk_kid {t k : Tree} {i : Nat} (h : Fm.notOk t = true) (hi : t.kids[i]? = some k) : Fm.notOk k = true := by
 obtain ⟨op, name, kids⟩ := t
 simp only [Fm.notOk, Bool.and_eq_true] at h
 have : ∀ (ts : List Tree) (i : Nat), Fm.notOkL ts = true → ts[i]? = some k → Fm.notOk k = true := by
  intro ts
  induction ts with
  | nil => intro i _ hi; simp at hi
  | cons a r ih =>
   intro i h hi
   simp only [Fm.notOkL, Bool.and_eq_true] at h
   cases i with
   | zero => simp at hi; subst hi; exact h.1
   | succ i => exact ih i h.2 (by simpa using hi)
 exact this kids i h.2 hi
end Go.Proofs.YtkgllhkhdjodeaaGreatDoor

namespace Go.Proofs.YtkgllhkhdjodeaaGreatDoor
open Go Go.Eng Go.Proofs
theorem kid_c (t : Tree) (hk : PutC t) : KidC t := by
 intro G a c q ba bc l l2 bs sa sc bo bp bk w hl2 hE hbare hbs hn hq hlen hS0
 refine enter Tryz.func33 rfl Tryz.ntmps33 rfl (C := [pt bo [q, .slice ba l.length bc] 60, rowc (.slice ba l.length bc) l.length 5 1 (bcells l)]) hS0 ?_
 refine jN 3 ?_
 refine WL.boxN rfl rfl (fun b4 => ?_)
 refine jN 12 ?_
 refine WL.callV F.fun34 rfl rfl (fun w hS => containsU_c bs sa sc t.op hbs w (fun i u hu => ?_)) ?_
 ·obtain ⟨b, off, h1, h2, h3⟩ := hbare i u hu
  exact ⟨b, off, h1, by simp, hS.oldc h3 h2⟩
 refine jN 2 ?_
 refine WA.splitB (i := 10) rfl (fun h10 => ?_) (fun h10 => ?_)
 ·have hks : Fm.kidS t bs = Fm.putS t := by unfold Fm.kidS; rw [if_pos]; rw [h10]; rfl
  refine jN 13 ?_
  rw [hks] at hlen hl2
  refine jN 1 ?_
  refine WL.load1 F.one75 rfl rfl (fun w hS => hS.oldc (cell_of_heap hE.h5 rfl) hE.n5) ?_
  refine jN 3 ?_
  refine WL.callFB (β := PX bo) (res := fun _ => .tuple #[]) (c1 := fun x => pt bo [x.1.1, .slice x.1.2.1 l2.length x.1.2.2] 60) (c2 := fun x => rowc (.slice x.1.2.1 l2.length x.1.2.2) l2.length 5 1 (bcells l2)) (q := q) (v := .slice ba l.length bc) (l := l) (b := bo) (us := []) (cap := [pp bo, pp bk]) F.fun35 rfl rfl rfl jR jR (fun w hS hS2 => hk G a c q ba bc l l2 bo bp bk w hl2 (hE.nextB hS) hn hq hlen hS2) (fun x17 => ?_)
  refine jN 4 ?_
  refine WQ.ret (rs := []) rfl .nil (fun w hS => ?_)
  have h2 := ((St.pick (St.pick hS (c := rowc (.slice x17.1.2.1 l2.length x17.1.2.2) l2.length 5 1 (bcells l2)) jR) (c := pt bo [x17.1.1, .slice x17.1.2.1 l2.length x17.1.2.2] 60) jR)).two2
  skip
  exact ⟨x17, rfl, h2⟩
 ·refine jN 13 ?_
  refine WC.cond rfl (fun h14 => ?_) (fun h14 => ?_)
  ·have hks : Fm.kidS t bs = Fm.putS t := by unfold Fm.kidS; rw [if_pos]; first | (rw [h10]; rfl) | (rw [h14]; simp)
   refine jN 2 ?_
   rw [hks] at hlen hl2
   refine jN 1 ?_
   refine WL.load1 F.one75 rfl rfl (fun w hS => hS.oldc (cell_of_heap hE.h5 rfl) hE.n5) ?_
   refine jN 3 ?_
   refine WL.callFB (β := PX bo) (res := fun _ => .tuple #[]) (c1 := fun x => pt bo [x.1.1, .slice x.1.2.1 l2.length x.1.2.2] 60) (c2 := fun x => rowc (.slice x.1.2.1 l2.length x.1.2.2) l2.length 5 1 (bcells l2)) (q := q) (v := .slice ba l.length bc) (l := l) (b := bo) (us := []) (cap := [pp bo, pp bk]) F.fun35 rfl rfl rfl jR jR (fun w hS hS2 => hk G a c q ba bc l l2 bo bp bk w hl2 (hE.nextB hS) hn hq hlen hS2) (fun x17 => ?_)
   refine jN 4 ?_
   refine WQ.ret (rs := []) rfl .nil (fun w hS => ?_)
   have h2 := ((St.pick (St.pick hS (c := rowc (.slice x17.1.2.1 l2.length x17.1.2.2) l2.length 5 1 (bcells l2)) jR) (c := pt bo [x17.1.1, .slice x17.1.2.1 l2.length x17.1.2.2] 60) jR)).two2
   skip
   exact ⟨x17, rfl, h2⟩
  ·have hks : Fm.kidS t bs = [40] ++ Fm.putS t ++ [41] := by unfold Fm.kidS; rw [if_neg]; rw [h10, h14]; simp
   rw [hks] at hlen hl2
   obtain ⟨la, hla⟩ : ∃ l2 : List UInt8, l2 = l ++ [40] := ⟨_, rfl⟩
   obtain ⟨lb, hlb⟩ : ∃ l2 : List UInt8, l2 = la ++ Fm.putS t := ⟨_, rfl⟩
   have hl3 : l2 = lb ++ [41] := by rw [hl2, hlb, hla]; simp [List.append_assoc]
   refine jN 5 ?_
   refine WL.callB (β := Option Addr × Nat) (res := fun _ => .tuple #[.int .i64 (List.length [40] : Nat), .nilIface]) (c1 := fun x => pt bo [pp bo, .slice x.1 la.length x.2] 60) (c2 := fun x => rowc (.slice x.1 la.length x.2) la.length 5 1 (bcells la)) (q := q) (v := .slice ba l.length bc) (l := l) (b := bo) F.fun26 rfl rfl jR jR (fun w hS hS2 => WriteString_e bo _ _ l [40] la _ hla (hq) (by simp only [hla, List.length_append, List.length_cons, List.length_nil] at hlen ⊢; omega) rfl w hS2) (fun x18 => ?_)
   refine jN 5 ?_
   refine WL.load1 F.one75 rfl rfl (fun w hS => hS.oldc (cell_of_heap hE.h5 rfl) hE.n5) ?_
   refine jN 3 ?_
   refine WL.callFB (β := PX bo) (res := fun _ => .tuple #[]) (c1 := fun x => pt bo [x.1.1, .slice x.1.2.1 lb.length x.1.2.2] 60) (c2 := fun x => rowc (.slice x.1.2.1 lb.length x.1.2.2) lb.length 5 1 (bcells lb)) (q := (pp bo)) (v := .slice x18.1 la.length x18.2) (l := la) (b := bo) (us := []) (cap := [pp bo, pp bk]) F.fun35 rfl rfl rfl jR jR (fun w hS hS2 => hk G a c (pp bo) x18.1 x18.2 la lb bo bp bk w hlb (hE.nextB hS) hn (.inr rfl) (by simp only [hla, List.length_append, List.length_cons, List.length_nil] at hlen ⊢; omega) hS2) (fun x21 => ?_)
   refine jN 4 ?_
   refine WL.callB (β := Option Addr × Nat) (res := fun _ => .tuple #[.int .i64 (List.length [41] : Nat), .nilIface]) (c1 := fun x => pt bo [pp bo, .slice x.1 l2.length x.2] 60) (c2 := fun x => rowc (.slice x.1 l2.length x.2) l2.length 5 1 (bcells l2)) (q := x21.1.1) (v := .slice x21.1.2.1 lb.length x21.1.2.2) (l := lb) (b := bo) F.fun26 rfl rfl jR jR (fun w hS hS2 => WriteString_e bo _ _ lb [41] l2 _ hl3 (x21.2) (by simp only [hlb, hla, List.length_append, List.length_cons, List.length_nil] at hlen ⊢; omega) rfl w hS2) (fun x22 => ?_)
   refine jN 1 ?_
   refine WQ.fin (rs := []) rfl .nil (fun w hS => ?_)
   have h2 := ((St.pick (St.pick hS (c := rowc (.slice x22.1 l2.length x22.2) l2.length 5 1 (bcells l2)) jR) (c := pt bo [pp bo, .slice x22.1 l2.length x22.2] 60) jR)).two2
   exact ⟨⟨(pp bo, x22.1, x22.2), .inr rfl⟩, rfl, h2⟩

theorem putS_mk (t : Tree) : Fm.putS t = if t.op = 1 then [48] else if t.op = 2 then [49] else if t.op = 3 then t.name else if t.op = 4 then [33] ++ Fm.putN t.kids else Fm.putK t.op 0 t.kids := by
 obtain ⟨op, name, kids⟩ := t
 simp only [Fm.putS, Tree.op, Tree.name, Tree.kids]
 rfl
theorem not_kid {t : Tree} (h : Fm.notOk t = true) (h4 : t.op = 4) : ∃ k, t.kids[0]? = some k := by
 obtain ⟨op, name, kids⟩ := t
 have : op = 4 := h4
 subst this
 cases kids with
 | nil => simp [Fm.notOk] at h
 | cons k r => exact ⟨k, rfl⟩
theorem putN_kid {t k : Tree} (h : t.kids[0]? = some k) : Fm.putN t.kids = Fm.kidS k [] := by
 obtain ⟨op, name, kids⟩ := t
 cases kids with
 | nil => simp [Tree.kids] at h
 | cons k2 r =>
  have : k2 = k := by simpa [Tree.kids] using h
  subst this
  simp [Fm.putN, Fm.kidS, Tree.kids]
structure PG where
 i : Nat
 q : Value
 ba : Option Addr
 bc : Nat
 lc : List UInt8

theorem put_step (t : Tree) (ih : ∀ k ∈ t.kids, PutC k) : PutC t := by
 intro G a c q ba bc l l2 bo bp bk w hl2 hE hn hq hlen hS0
 refine enter Tryz.func35 rfl Tryz.ntmps35 rfl (C := [pt bo [q, .slice ba l.length bc] 60, rowc (.slice ba l.length bc) l.length 5 1 (bcells l)]) hS0 ?_
 refine jN 3 ?_
 refine WL.boxN rfl rfl (fun b3 => ?_)
 refine jN 19 ?_
 refine WC.cond rfl (fun h33 => ?_) (fun h33 => ?_)
 ·have h1 : t.op = 1 := by simpa using h33
  rw [show Fm.putS t = [48] by rw [putS_mk, if_pos h1]] at hl2 hlen
  refine jN 2 ?_
  refine WL.callB (β := Option Addr × Nat) (res := fun _ => .tuple #[.int .i64 (List.length [48] : Nat), .nilIface]) (c1 := fun x => pt bo [pp bo, .slice x.1 l2.length x.2] 60) (c2 := fun x => rowc (.slice x.1 l2.length x.2) l2.length 5 1 (bcells l2)) (q := q) (v := .slice ba l.length bc) (l := l) (b := bo) F.fun26 rfl rfl jR jR (fun w hS hS2 => WriteString_e bo _ _ l [48] l2 _ hl2 (hq) (by simp only [List.length_append, List.length_cons, List.length_nil] at hlen ⊢; omega) rfl w hS2) (fun x35 => ?_)
  refine jN 2 ?_
  refine WQ.fin (rs := []) rfl .nil (fun w hS => ?_)
  have h2 := ((St.pick (St.pick hS (c := rowc (.slice x35.1 l2.length x35.2) l2.length 5 1 (bcells l2)) jR) (c := pt bo [pp bo, .slice x35.1 l2.length x35.2] 60) jR)).two2
  exact ⟨⟨(pp bo, x35.1, x35.2), .inr rfl⟩, rfl, h2⟩
 ·have h1 : t.op ≠ 1 := by simpa using h33
  refine jN 8 ?_
  refine WC.cond rfl (fun h36 => ?_) (fun h36 => ?_)
  ·have h2 : t.op = 2 := by simpa using h36
   rw [show Fm.putS t = [49] by rw [putS_mk, if_neg h1, if_pos h2]] at hl2 hlen
   refine jN 2 ?_
   refine WL.callB (β := Option Addr × Nat) (res := fun _ => .tuple #[.int .i64 (List.length [49] : Nat), .nilIface]) (c1 := fun x => pt bo [pp bo, .slice x.1 l2.length x.2] 60) (c2 := fun x => rowc (.slice x.1 l2.length x.2) l2.length 5 1 (bcells l2)) (q := q) (v := .slice ba l.length bc) (l := l) (b := bo) F.fun26 rfl rfl jR jR (fun w hS hS2 => WriteString_e bo _ _ l [49] l2 _ hl2 (hq) (by simp only [List.length_append, List.length_cons, List.length_nil] at hlen ⊢; omega) rfl w hS2) (fun x35 => ?_)
   refine jN 2 ?_
   refine WQ.fin (rs := []) rfl .nil (fun w hS => ?_)
   have h2 := ((St.pick (St.pick hS (c := rowc (.slice x35.1 l2.length x35.2) l2.length 5 1 (bcells l2)) jR) (c := pt bo [pp bo, .slice x35.1 l2.length x35.2] 60) jR)).two2
   exact ⟨⟨(pp bo, x35.1, x35.2), .inr rfl⟩, rfl, h2⟩
  ·have h2 : t.op ≠ 2 := by simpa using h36
   refine jN 8 ?_
   refine WC.cond rfl (fun h39 => ?_) (fun h39 => ?_)
   ·have h3 : t.op = 3 := by simpa using h39
    rw [show Fm.putS t = t.name by rw [putS_mk, if_neg h1, if_neg h2, if_pos h3]] at hl2 hlen
    refine jN 6 ?_
    refine WL.callB (β := Option Addr × Nat) (res := fun _ => .tuple #[.int .i64 (List.length t.name : Nat), .nilIface]) (c1 := fun x => pt bo [pp bo, .slice x.1 l2.length x.2] 60) (c2 := fun x => rowc (.slice x.1 l2.length x.2) l2.length 5 1 (bcells l2)) (q := q) (v := .slice ba l.length bc) (l := l) (b := bo) F.fun26 rfl rfl jR jR (fun w hS hS2 => WriteString_e bo _ _ l t.name l2 _ hl2 (hq) (by omega) rfl w hS2) (fun x35 => ?_)
    refine jN 2 ?_
    refine WQ.fin (rs := []) rfl .nil (fun w hS => ?_)
    have h2 := ((St.pick (St.pick hS (c := rowc (.slice x35.1 l2.length x35.2) l2.length 5 1 (bcells l2)) jR) (c := pt bo [pp bo, .slice x35.1 l2.length x35.2] 60) jR)).two2
    exact ⟨⟨(pp bo, x35.1, x35.2), .inr rfl⟩, rfl, h2⟩
   ·have h3 : t.op ≠ 3 := by simpa using h39
    refine jN 8 ?_
    refine WC.cond rfl (fun h44 => ?_) (fun h44 => ?_)
    ·have h4 : t.op = 4 := by simpa using h44
     obtain ⟨k, hk⟩ := not_kid hn h4
     rw [show Fm.putS t = [33] ++ Fm.kidS k [] by rw [putS_mk, if_neg h1, if_neg h2, if_neg h3, if_pos h4, putN_kid hk]] at hl2 hlen
     obtain ⟨b, off, F1, a1, c1, rfl, hbO, hEk, hcells⟩ := hE.kid hk
     obtain ⟨la, hla⟩ : ∃ l2 : List UInt8, l2 = l ++ [33] := ⟨_, rfl⟩
     have hle : l2 = la ++ Fm.kidS k [] := by rw [hl2, hla, List.append_assoc]
     have hlk : 0 < t.kids.length := (List.getElem?_eq_some_iff.1 hk).1
     have hKid := kid_c k (ih k (List.mem_of_getElem? hk))
     refine jN 3 ?_
     refine WL.callB (β := Option Addr × Nat) (res := fun _ => .tuple #[.int .i64 (List.length [33] : Nat), .nilIface]) (c1 := fun x => pt bo [pp bo, .slice x.1 la.length x.2] 60) (c2 := fun x => rowc (.slice x.1 la.length x.2) la.length 5 1 (bcells la)) (q := q) (v := .slice ba l.length bc) (l := l) (b := bo) F.fun26 rfl rfl jR jR (fun w hS hS2 => WriteString_e bo _ _ l [33] la _ hla (hq) (by simp only [hla, List.length_append, List.length_cons, List.length_nil] at hlen ⊢; omega) rfl w hS2) (fun x46 => ?_)
     refine jN 2 ?_
     refine WC.draws [([5], fun w => w.cell? ⟨bk, 0, none⟩ = some (Value.func (.func 33) [].toArray [pp bp, pp bo].toArray)), ([5], fun w => w.cell? ⟨b3, 2, none⟩ = some (.slice (some ⟨b, off, none⟩) t.kids.length c)), ([5], fun w => ∀ j v, [Value.int .u8 k.op, .string (str k.name), .slice a1 k.kids.length c1][j]? = some v → w.cell? ⟨b, off + 0 * 3 + j, none⟩ = some v)] (by kernel_rfl) (fun w hS => facts_cons (hS.oldc (cell_of_heap hE.h6 rfl) hE.n6) (facts_cons (hS.cell jM rfl) (facts_cons (fun j v hj => hS.oldc (hcells j v hj) hbO) (facts_nil)))) ?_
     refine jF 0 0 rfl rfl (Yl.load1 F.one77 rfl) ?_
     refine jT 1 rfl (Yl.fieldAddr0 F.fld36_2 rfl) ?_
     refine jF 2 1 rfl rfl (Yl.load1 F.one34 rfl) ?_
     refine jT 3 rfl (Yl.indexAddr (i := 0) F.sl34 rfl rfl hlk) ?_
     refine jF 4 2 rfl rfl (Yl.loadN F.agg36 rfl rfl) ?_
     refine jA 5 rfl ?_
     refine WL.callFB (β := PX bo) (res := fun _ => .tuple #[]) (c1 := fun x => pt bo [x.1.1, .slice x.1.2.1 l2.length x.1.2.2] 60) (c2 := fun x => rowc (.slice x.1.2.1 l2.length x.1.2.2) l2.length 5 1 (bcells l2)) (q := (pp bo)) (v := .slice x46.1 la.length x46.2) (l := la) (b := bo) (us := []) (cap := [pp bp, pp bo]) F.fun33 rfl rfl rfl jR jR (fun w hS hS2 => hKid F1 a1 c1 (pp bo) x46.1 x46.2 la l2 [] none 0 bo bp bk w hle (hEk.nextB hS) (fun i u hu => by simp at hu) (by simp) (notOk_kid hn hk) (.inr rfl) (by simp only [hla, List.length_append, List.length_cons, List.length_nil] at hlen ⊢; omega) hS2) (fun x52 => ?_)
     refine jG ?_
     refine jD ?_
     refine jN 1 ?_
     refine WQ.fin (rs := []) rfl .nil (fun w hS => ?_)
     have h2 := ((St.pick (St.pick hS (c := rowc (.slice x52.1.2.1 l2.length x52.1.2.2) l2.length 5 1 (bcells l2)) jR) (c := pt bo [x52.1.1, .slice x52.1.2.1 l2.length x52.1.2.2] 60) jR)).two2
     skip
     exact ⟨x52, rfl, h2⟩
    ·have h4 : t.op ≠ 4 := by simpa using h44
     rw [show Fm.putS t = Fm.putK t.op 0 t.kids by rw [putS_mk, if_neg h1, if_neg h2, if_neg h3, if_neg h4]] at hl2 hlen
     refine jN 13 ?_
     refine WC.chunks (fun w hS => (St.pick (St.pick hS (c := rowc (.slice ba l.length bc) l.length 5 1 (bcells l)) jR) (c := pt bo [q, .slice ba l.length bc] 60) jR)) ?_
     refine WC.loop (α := PG) (fun g => g.i ≤ t.kids.length ∧ g.i ≤ g.lc.length + 1 ∧ (g.q = .pointer none ∨ g.q = pp bo) ∧ g.lc ++ Fm.putK t.op (g.i : Int) (t.kids.drop g.i) = l2) (fun g => [(1, pp bo), (2, pp bk), (3, pp b3), (9, .slice a t.kids.length c), (10, .int .i64 (t.kids.length : Int)), (11, .int .i64 (g.i : Int))]) (fun g => [pt bo [g.q, .slice g.ba g.lc.length g.bc] 60, rowc (.slice g.ba g.lc.length g.bc) g.lc.length 5 1 (bcells g.lc), pt b3 [.int .u8 t.op, .string (str t.name), .slice a t.kids.length c] 36]) (fun g => t.kids.length - g.i) (⟨0, q, ba, bc, l⟩) ?_ ?_ ?_ ?_
     ·exact ⟨Nat.zero_le _, Nat.zero_le _, hq, hl2.symm⟩
     ·exact ⟨rfl, rfl, rfl, rfl, rfl, rfl, trivial⟩
     ·rfl
     rintro ⟨i, q, ba, bc, lc⟩ ⟨hi, hil, hq, hput⟩
     dsimp only at hi hil hq hput
     show WC _ _ _ _ _ _ _ [(1, pp bo), (2, pp bk), (3, pp b3), (9, .slice a t.kids.length c), (10, .int .i64 (t.kids.length : Int)), (11, .int .i64 (i : Int))] [pt bo [q, .slice ba lc.length bc] 60, rowc (.slice ba lc.length bc) lc.length 5 1 (bcells lc), pt b3 [.int .u8 t.op, .string (str t.name), .slice a t.kids.length c] 36]
     refine jN 7 ?_
     refine WC.cond rfl (fun h12 => ?_) (fun h12 => ?_)
     ·have hlt : i < t.kids.length := by simpa using h12
      obtain ⟨k, hk⟩ : ∃ k, t.kids[i]? = some k := ⟨_, List.getElem?_eq_getElem hlt⟩
      obtain ⟨b, off, F1, a1, c1, rfl, hbO, hEk, hcells⟩ := hE.kid hk
      have hput2 := hput
      rw [putK_drop hk] at hput2
      have hi46 : i ≤ 70368744177665 := by (have h9 := congrArg List.length hput; simp only [hl2, List.length_append] at h9; omega)
      have hKid := kid_c k (ih k (List.mem_of_getElem? hk))
      refine jN 9 ?_
      refine WL.indexAddr F.sl34 rfl rfl rfl hlt ?_
      refine jN 1 ?_
      refine WL.loadN F.agg36 rfl rfl (vs := [Value.int .u8 k.op, .string (str k.name), .slice a1 k.kids.length c1]) rfl (fun w hS j v hj => hS.oldc (hcells j v hj) hbO) ?_
      refine jN 1 ?_
      refine WL.alloc F.zero36 rfl (fun b5 => ?_)
      refine jN 15 ?_
      refine WC.cond rfl (fun h17 => ?_) (fun h17 => ?_)
      ·have hip : (0 : Int) < (i : Int) := by simpa using h17
       rw [if_pos hip] at hput2
       obtain ⟨ld, hld⟩ : ∃ l2 : List UInt8, l2 = lc ++ ([32] ++ Fm.signS t.op (i : Int) ++ [32]) := ⟨_, rfl⟩
       obtain ⟨le, hle⟩ : ∃ l2 : List UInt8, l2 = ld ++ Fm.kidS k (Fm.bareL.take (Fm.bareN t.op (i : Int))) := ⟨_, rfl⟩
       have hput3 : le ++ Fm.putK t.op ((i + 1 : Nat) : Int) (t.kids.drop (i + 1)) = l2 := by rw [← hput2, hle, hld]; simp only [List.append_assoc]
       have hil2 : i + 1 ≤ le.length + 1 := by (rw [hle, hld]; simp only [List.length_append, List.length_cons, List.length_nil]; omega)
       refine jN 8 ?_
       refine WL.callV F.fun36 rfl rfl (fun w _ => sign_c _ _ w) ?_
       refine jN 1 ?_
       refine WL.addS (m := [32]) rfl rfl rfl (by have := Fm.signS_len t.op (i : Int); simp only [List.length_cons, List.length_nil]; omega) ?_
       refine jN 1 ?_
       refine WL.addS (n := [32]) rfl rfl rfl (by have := Fm.signS_len t.op (i : Int); simp only [List.length_append, List.length_cons, List.length_nil]; omega) ?_
       refine jN 1 ?_
       refine WL.callB (β := Option Addr × Nat) (res := fun _ => .tuple #[.int .i64 (List.length ([32] ++ Fm.signS t.op (i : Int) ++ [32]) : Nat), .nilIface]) (c1 := fun x => pt bo [pp bo, .slice x.1 ld.length x.2] 60) (c2 := fun x => rowc (.slice x.1 ld.length x.2) ld.length 5 1 (bcells ld)) (q := q) (v := .slice ba lc.length bc) (l := lc) (b := bo) F.fun26 rfl rfl jR jR (fun w hS hS2 => WriteString_e bo _ _ lc ([32] ++ Fm.signS t.op (i : Int) ++ [32]) ld _ hld (hq) (by have h9 := congrArg List.length hput2; simp only [hl2, List.length_append, List.length_cons, List.length_nil] at h9 hlen ⊢; omega) rfl w hS2) (fun x24 => ?_)
       refine jN 2 ?_
       refine WC.draws [([6], fun w => w.cell? ⟨bk, 0, none⟩ = some (Value.func (.func 33) [].toArray [pp bp, pp bo].toArray)), ([6], fun w => ∀ j v, [Value.int .u8 k.op, .string (str k.name), .slice a1 k.kids.length c1][j]? = some v → w.cell? ⟨b5, 0 + j, none⟩ = some v), ([5, 6], fun w => w.cell? ⟨b3, 0, none⟩ = some (.int .u8 t.op))] (by kernel_rfl) (fun w hS => facts_cons (hS.oldc (cell_of_heap hE.h6 rfl) hE.n6) (facts_cons (fun j v hv => by rw [Nat.zero_add]; exact hS.cell jM hv) (facts_cons (hS.cell jM rfl) (facts_nil)))) ?_
       refine jF 0 0 rfl rfl (Yl.load1 F.one77 rfl) ?_
       refine jF 1 1 rfl rfl (Yl.loadN F.agg36 rfl rfl) ?_
       refine jT 2 rfl (Yl.fieldAddr0 F.fld36_0 rfl) ?_
       refine jF 3 2 rfl rfl (Yl.load1 F.one5 rfl) ?_
       refine jT 4 rfl (Yl.move rfl) ?_
       refine jA 5 rfl ?_
       refine jC (β := { x : Nat × Option Addr × Nat // x.2.1 = some ⟨x.1, 0, none⟩ ∨ Fm.bareN t.op (i : Int) = 0 }) (res := fun x => .slice x.1.2.1 (Fm.bareL.take (Fm.bareN t.op (i : Int))).length x.1.2.2) (cs := fun x => [pt x.1.1 (Fm.bareL.map (Value.int .u8)) 5]) F.fun37 rfl (fun w hS _ => (bare_c t.op (i : Int) w).mono (fun e w2 h => ?_)) (fun x30 => ?_)
       ·obtain ⟨x, h1, h2, h3⟩ := h
        exact ⟨⟨x, h1⟩, h2, h3⟩
       refine WD.on (closed_of (by kernel_rfl)) (fun w hS => Sx.keep (hS.oldc (cell_of_heap hE.h6 rfl) hE.n6) (Sx.keep (fun j v hv => by rw [Nat.zero_add]; exact hS.cell jM hv) (Sx.gone rfl (Sx.none)))) ?_
       refine jA 6 rfl ?_
       refine WL.callFB (β := PX bo) (res := fun _ => .tuple #[]) (c1 := fun x => pt bo [x.1.1, .slice x.1.2.1 le.length x.1.2.2] 60) (c2 := fun x => rowc (.slice x.1.2.1 le.length x.1.2.2) le.length 5 1 (bcells le)) (q := (pp bo)) (v := .slice x24.1 ld.length x24.2) (l := ld) (b := bo) (us := []) (cap := [pp bp, pp bo]) F.fun33 rfl rfl rfl jR jR (fun w hS hS2 => hKid F1 a1 c1 ((pp bo)) (x24.1) (x24.2) ld le (Fm.bareL.take (Fm.bareN t.op (i : Int))) x30.1.2.1 x30.1.2.2 bo bp bk w hle (hEk.nextB hS) (Bare.of_new hS (g := x30.1.1) jM x30.2) (by simp [Fm.bareL]; omega) (notOk_kid hn hk) ((.inr rfl)) (by have h9 := congrArg List.length hput2; simp only [hl2, hld, List.length_append, List.length_cons, List.length_nil] at h9 hlen ⊢; omega) hS2) (fun x31 => ?_)
       refine jG ?_
       refine jD ?_
       refine jN 8 ?_
       refine WQ.chunks (C' := [pt bo [x31.1.1, .slice x31.1.2.1 le.length x31.1.2.2] 60, rowc (.slice x31.1.2.1 le.length x31.1.2.2) le.length 5 1 (bcells le), pt b3 [.int .u8 t.op, .string (str t.name), .slice (some ⟨b, off, none⟩) t.kids.length c] 36]) (fun w hS => (jK hS)) ?_
       refine WQ.back (⟨i + 1, x31.1.1, x31.1.2.1, x31.1.2.2, le⟩) ?_ ?_ ?_ ?_
       ·exact ⟨by show i + 1 ≤ t.kids.length; omega, hil2, x31.2, hput3⟩
       ·(show t.kids.length - (i + 1) < t.kids.length - i; omega)
       ·exact ⟨rfl, rfl, rfl, rfl, rfl, rfl, trivial⟩
       ·rfl
      ·have hip : ¬ (0 : Int) < (i : Int) := by simpa using h17
       rw [if_neg hip] at hput2
       obtain ⟨le, hle⟩ : ∃ l2 : List UInt8, l2 = lc ++ Fm.kidS k (Fm.bareL.take (Fm.bareN t.op (i : Int))) := ⟨_, rfl⟩
       have hput3 : le ++ Fm.putK t.op ((i + 1 : Nat) : Int) (t.kids.drop (i + 1)) = l2 := by rw [← hput2, hle]; simp only [List.append_assoc, List.nil_append]
       have hil2 : i + 1 ≤ le.length + 1 := by omega
       refine jN 2 ?_
       refine WC.draws [([6], fun w => w.cell? ⟨bk, 0, none⟩ = some (Value.func (.func 33) [].toArray [pp bp, pp bo].toArray)), ([6], fun w => ∀ j v, [Value.int .u8 k.op, .string (str k.name), .slice a1 k.kids.length c1][j]? = some v → w.cell? ⟨b5, 0 + j, none⟩ = some v), ([5, 6], fun w => w.cell? ⟨b3, 0, none⟩ = some (.int .u8 t.op))] (by kernel_rfl) (fun w hS => facts_cons (hS.oldc (cell_of_heap hE.h6 rfl) hE.n6) (facts_cons (fun j v hv => by rw [Nat.zero_add]; exact hS.cell jM hv) (facts_cons (hS.cell jM rfl) (facts_nil)))) ?_
       refine jF 0 0 rfl rfl (Yl.load1 F.one77 rfl) ?_
       refine jF 1 1 rfl rfl (Yl.loadN F.agg36 rfl rfl) ?_
       refine jT 2 rfl (Yl.fieldAddr0 F.fld36_0 rfl) ?_
       refine jF 3 2 rfl rfl (Yl.load1 F.one5 rfl) ?_
       refine jT 4 rfl (Yl.move rfl) ?_
       refine jA 5 rfl ?_
       refine jC (β := { x : Nat × Option Addr × Nat // x.2.1 = some ⟨x.1, 0, none⟩ ∨ Fm.bareN t.op (i : Int) = 0 }) (res := fun x => .slice x.1.2.1 (Fm.bareL.take (Fm.bareN t.op (i : Int))).length x.1.2.2) (cs := fun x => [pt x.1.1 (Fm.bareL.map (Value.int .u8)) 5]) F.fun37 rfl (fun w hS _ => (bare_c t.op (i : Int) w).mono (fun e w2 h => ?_)) (fun x30 => ?_)
       ·obtain ⟨x, h1, h2, h3⟩ := h
        exact ⟨⟨x, h1⟩, h2, h3⟩
       refine WD.on (closed_of (by kernel_rfl)) (fun w hS => Sx.keep (hS.oldc (cell_of_heap hE.h6 rfl) hE.n6) (Sx.keep (fun j v hv => by rw [Nat.zero_add]; exact hS.cell jM hv) (Sx.gone rfl (Sx.none)))) ?_
       refine jA 6 rfl ?_
       refine WL.callFB (β := PX bo) (res := fun _ => .tuple #[]) (c1 := fun x => pt bo [x.1.1, .slice x.1.2.1 le.length x.1.2.2] 60) (c2 := fun x => rowc (.slice x.1.2.1 le.length x.1.2.2) le.length 5 1 (bcells le)) (q := q) (v := .slice ba lc.length bc) (l := lc) (b := bo) (us := []) (cap := [pp bp, pp bo]) F.fun33 rfl rfl rfl jR jR (fun w hS hS2 => hKid F1 a1 c1 (q) (ba) (bc) lc le (Fm.bareL.take (Fm.bareN t.op (i : Int))) x30.1.2.1 x30.1.2.2 bo bp bk w hle (hEk.nextB hS) (Bare.of_new hS (g := x30.1.1) jM x30.2) (by simp [Fm.bareL]; omega) (notOk_kid hn hk) (hq) (by have h9 := congrArg List.length hput2; simp only [hl2, List.length_append, List.length_cons, List.length_nil] at h9 hlen ⊢; omega) hS2) (fun x31 => ?_)
       refine jG ?_
       refine jD ?_
       refine jN 8 ?_
       refine WQ.chunks (C' := [pt bo [x31.1.1, .slice x31.1.2.1 le.length x31.1.2.2] 60, rowc (.slice x31.1.2.1 le.length x31.1.2.2) le.length 5 1 (bcells le), pt b3 [.int .u8 t.op, .string (str t.name), .slice (some ⟨b, off, none⟩) t.kids.length c] 36]) (fun w hS => (jK hS)) ?_
       refine WQ.back (⟨i + 1, x31.1.1, x31.1.2.1, x31.1.2.2, le⟩) ?_ ?_ ?_ ?_
       ·exact ⟨by show i + 1 ≤ t.kids.length; omega, hil2, x31.2, hput3⟩
       ·(show t.kids.length - (i + 1) < t.kids.length - i; omega)
       ·exact ⟨rfl, rfl, rfl, rfl, rfl, rfl, trivial⟩
       ·rfl
     ·have hie : i = t.kids.length := by simp at h12; omega
      subst hie
      rw [List.drop_length] at hput
      have hlc : lc = l2 := by rw [← hput]; simp [Fm.putK]
      subst hlc
      refine jN 5 ?_
      refine WQ.fin (rs := []) rfl .nil (fun w hS => ?_)
      have h2 := ((St.pick (St.pick hS (c := rowc (.slice ba lc.length bc) lc.length 5 1 (bcells lc)) jR) (c := pt bo [q, .slice ba lc.length bc] 60) jR)).two2
      exact ⟨⟨(q, ba, bc), hq⟩, rfl, h2⟩

theorem put_c : ∀ t : Tree, PutC t
 | .mk op name kids => put_step _ (fun k hk => put_c k)
termination_by t => SizeOf.sizeOf t
decreasing_by
 have hk' : k ∈ kids := hk
 have := List.sizeOf_lt_of_mem hk'
 simp only [Tree.mk.sizeOf_spec]
 omega

end Go.Proofs.YtkgllhkhdjodeaaGreatDoor

namespace Go.Proofs.YtkgllhkhdjodeaaGreatDoor
open Go Go.Eng Go.Proofs
theorem putS_ne : ∀ {lv : Nat} {t : Tree} {left l : Nat}, Fm.validT lv t left = some l → Fm.putS t ≠ []
 | lv, .mk op name [], left, l, h => by
  simp only [Fm.validT] at h
  split at h
  ·cases h
  ·rename_i hc
   have hr : Fm.rightB (.mk op name []) = true := by
    cases hh : Fm.rightB (.mk op name []) with
    | true => rfl
    | false => exact absurd (.inr (.inr hh)) hc
   simp only [Fm.putS]
   split
   ·simp
   split
   ·simp
   split
   ·rename_i h3
    have := Fm.rightB_name hr h3
    intro hn
    simp only [Tree.name] at this
    rw [hn] at this
    simp at this
   split
   ·simp
   ·exfalso
    rename_i h1 h2 h3 h4
    have hb : Fm.kidsBad op 0 = true := by
     simp only [Fm.kidsBad, Fm.kidsOf]
     rw [if_neg (by omega), if_neg (by omega)]
     split
     ·rfl
     split
     ·rfl
     split <;> rfl
    simp [Fm.rightB, Tree.op, Tree.kids, hb] at hr
 | lv, .mk op name (k :: ks), left, l, h => by
  simp only [Fm.validT] at h
  split at h
  ·cases h
  ·rename_i hc
   simp only [Fm.validL] at h
   split at h
   ·cases h
   ·rename_i j hj
    have hk := putS_ne hj
    have hr : Fm.rightB (.mk op name (k :: ks)) = true := by
     cases hh : Fm.rightB (.mk op name (k :: ks)) with
     | true => rfl
     | false => exact absurd (.inr (.inr hh)) hc
    simp only [Fm.putS]
    split
    ·simp
    split
    ·simp
    split
    ·rename_i h3
     have := Fm.rightB_name hr h3
     intro hn
     simp only [Tree.name] at this
     rw [hn] at this
     simp at this
    split
    ·simp
    ·simp only [Fm.putK]
     intro hn
     have h1 := (List.append_eq_nil_iff.1 (List.append_eq_nil_iff.1 hn).1).2
     revert h1
     split <;> simp [hk]
def printS (t : Tree) : List UInt8 := if Fm.validB t then Fm.putS t else []

theorem Print_c (t : Tree) (G : List Nat) (a : Option Addr) (c : Nat) (w : World) (hr : rdT w t G (tv t a c)) : Pure Tryz.prog 13 [tv t a c] w (.tuple #[.string (str (printS t)), .int .i64 (if Fm.validB t then 0 else 2)]) := by
 refine enter Tryz.func13 rfl Tryz.ntmps13 rfl (St.init _) ?_
 refine jN 3 ?_
 refine WL.boxN rfl rfl (fun b1 => ?_)
 refine jN 12 ?_
 refine WL.callV F.fun32 rfl rfl (fun w hS => Valid_c t G a c w (hS.oldT hr (fun k hk => ⟨rdT_lt hr k hk, by simp⟩))) ?_
 refine jN 4 ?_
 refine WC.cond rfl (fun h9 => ?_) (fun h9 => ?_)
 ·have hv : Fm.validB t = false := by simpa using h9
  refine jN 10 ?_
  refine WQ.ret (rs := [.tmp 2, .tmp 3]) rfl (.tmp rfl (.tmp rfl .nil)) (fun w hS => ⟨?_, hS.drop⟩)
  simp [printS, hv, tup, str]
 ·have hv : Fm.validB t = true := by simpa using h9
  obtain ⟨lf, hlf⟩ : ∃ lf, Fm.validT 64 t 1000 = some lf := Option.isSome_iff_exists.1 hv
  have hlen := Fm.putS_len hlf
  have hne := putS_ne hlf
  have hno := Fm.notOk_valid hlf
  refine jN 5 ?_
  refine WL.alloc F.zero60 rfl (fun b4 => ?_)
  refine jN 5 ?_
  refine WL.alloc F.zero75 rfl (fun b5 => ?_)
  refine jN 7 ?_
  refine WL.alloc F.zero77 rfl (fun b6 => ?_)
  refine jN 18 ?_
  refine WA.chunks (fun w hS => hS.rowNil 5 1) ?_
  refine jN 1 ?_
  refine WL.callFB (β := PX b4) (res := fun _ => .tuple #[]) (c1 := fun x => pt b4 [x.1.1, .slice x.1.2.1 (Fm.putS t).length x.1.2.2] 60) (c2 := fun x => rowc (.slice x.1.2.1 (Fm.putS t).length x.1.2.2) (Fm.putS t).length 5 1 (bcells (Fm.putS t))) (q := .pointer none) (v := .slice none 0 0) (l := []) (b := b4) (us := []) (cap := [pp b4, pp b6]) F.fun35 rfl rfl rfl jR jR (fun w hS hS2 => put_c t G a c (.pointer none) none 0 [] (Fm.putS t) b4 b5 b6 w rfl ⟨hS.oldT hr (fun k hk => ⟨rdT_lt hr k hk, by simp⟩), fun k hk hk2 => ?_, hS.heap (cs := [Value.func (.func 35) [].toArray [pp b4, pp b6].toArray]) jM, hS.heap (cs := [Value.func (.func 33) [].toArray [pp b5, pp b4].toArray]) jM, ?_, ?_⟩ hno (.inl rfl) (by simp only [List.length_nil]; omega) hS2) (fun x14 => ?_)
  ·have hk3 : k = b4 := by simpa [ob, Value.ownBlock] using hk2
   subst hk3
   have h1 := (hS.bnd (pt k [.pointer none, .slice none 0 0] 60) jM k rfl).2 (rdT_lt hr k hk)
   cases h1
  ·have h1 := St.ne2 (St.pick (St.pick hS (c := pt b4 [.pointer none, .slice none 0 0] 60) jR) (c := pt b5 [Value.func (.func 35) [].toArray [pp b4, pp b6].toArray] 75) jR)
   simpa [ob, Value.ownBlock] using h1
  ·have h1 := St.ne2 (St.pick (St.pick hS (c := pt b4 [.pointer none, .slice none 0 0] 60) jR) (c := pt b6 [Value.func (.func 33) [].toArray [pp b5, pp b4].toArray] 77) jR)
   simpa [ob, Value.ownBlock] using h1
  refine jN 5 ?_
  refine WL.callC (β := Unit) (res := fun _ => .string (str (Fm.putS t))) (cs := fun _ => [pt b4 [x14.1.1, .slice x14.1.2.1 (Fm.putS t).length x14.1.2.2] 60]) (Cs := [pt b4 [x14.1.1, .slice x14.1.2.1 (Fm.putS t).length x14.1.2.2] 60, rowc (.slice x14.1.2.1 (Fm.putS t).length x14.1.2.2) (Fm.putS t).length 5 1 (bcells (Fm.putS t))]) (O' := b4 :: ob (.slice x14.1.2.1 (Fm.putS t).length x14.1.2.2)) F.fun28 (fun d h => by cases h; rfl) rfl (List.Perm.refl _) bld_fp1 bld_fp2 (fun w hS hS2 => (String_c b4 _ _ _ (Fm.putS t) hne (by omega) w hS2).mono (fun e w2 h => ⟨(), h⟩)) (fun _ => ?_)
  refine jN 7 ?_
  refine WQ.ret (rs := [.tmp 2, .tmp 3]) rfl (.tmp rfl (.tmp rfl .nil)) (fun w hS => ⟨?_, hS.sublist (List.nil_sublist _)⟩)
  simp [printS, hv, tup]

end Go.Proofs.YtkgllhkhdjodeaaGreatDoor

namespace Go.Proofs.YtkgllhkhdjodeaaGreatDoor
open Go Go.Eng Go.Proofs
theorem _root_.Go.Eng.Yl.as {P : Program} {N : Nat} {D : List Deferred} {L : FL} {F : World → Prop} {o : Oper} {v v' : Value} (h : Yl P N D L F o v) (e : v = v') : Yl P N D L F o v' := e ▸ h
abbrev kv (k : Fm.Kn) : Value := .agg [.int .u32 (k.1 : Int), .int .u32 (k.2 : Int)].toArray
def KB (k : Fm.Kn) : Prop := k.1 < 4294967296 ∧ k.2 < 4294967296
/-- A clause in memory. -/
def RdC (w : World) (c : List Int) (a : Option Addr) : Prop := ∀ j x, c[j]? = some x → ∃ b off, a = some ⟨b, off, none⟩ ∧ w.cell? ⟨b, off + j, none⟩ = some (.int .i64 x)
theorem RdC.next {w0 w : World} {C : List Chunk} {c : List Int} {a : Option Addr} (h : RdC w0 c a) (hS : St w0 [] C w) : RdC w c a := fun j x hx => by
 obtain ⟨b, off, ha, hc⟩ := h j x hx
 exact ⟨b, off, ha, hS.oldc hc (by simp)⟩
/-- A list of clauses in memory, by their headers. -/
structure RdLL (w : World) (ls : List (List Int)) (a : Option Addr) (us : List Value) : Prop where
 len : us.length = ls.length
 hd : ∀ (i : Nat) (u : Value), us[i]? = some u → ∃ b off, a = some ⟨b, off, none⟩ ∧ w.cell? ⟨b, off + i, none⟩ = some u
 rd : ∀ (i : Nat) (c : List Int) (u : Value), ls[i]? = some c → us[i]? = some u → ∃ (a1 : Option Addr) (cap : Nat), u = Value.slice a1 c.length cap ∧ RdC w c a1
theorem RdLL.next {w0 w : World} {C : List Chunk} {ls : List (List Int)} {a : Option Addr} {us : List Value} (h : RdLL w0 ls a us) (hS : St w0 [] C w) : RdLL w ls a us :=
 ⟨h.len, fun i u hu => by
  obtain ⟨b, off, ha, hc⟩ := h.hd i u hu
  exact ⟨b, off, ha, hS.oldc hc (by simp)⟩, fun i c u hc hu => by
  obtain ⟨a1, cap, h1, h2⟩ := h.rd i c u hc hu
  exact ⟨a1, cap, h1, h2.next hS⟩⟩
theorem RdLL.at {w : World} {ls : List (List Int)} {a : Option Addr} {us : List Value} {i : Nat} (h : RdLL w ls a us) (hi : i < ls.length) : ∃ c b off a1 cap, ls[i]? = some c ∧ a = some ⟨b, off, none⟩ ∧ w.cell? ⟨b, off + i, none⟩ = some (.slice a1 c.length cap) ∧ RdC w c a1 := by
 have hi' : i < us.length := by rw [h.len]; exact hi
 have h1 : us[i]? = some us[i] := List.getElem?_eq_getElem hi'
 have h2 : ls[i]? = some ls[i] := List.getElem?_eq_getElem hi
 obtain ⟨b, off, ha, hc⟩ := h.hd i _ h1
 obtain ⟨a1, cap, hu, hr⟩ := h.rd i _ _ h2 h1
 exact ⟨ls[i], b, off, a1, cap, h2, ha, by rw [hc, hu], hr⟩

theorem literal_c (n l : Int) (hn : -1000 ≤ n ∧ n ≤ 1000) (w : World) : Pure Tryz.prog 66 [.int .i64 n, .int .i64 l] w (.bool (Fm.litB n l)) := by
 refine enter Tryz.func66 rfl Tryz.ntmps66 rfl (St.init _) ?_
 refine jN 14 ?_
 refine WA.splitB (i := 7) rfl (fun h7 => ?_) (fun h7 => ?_)
 ·refine jN 8 ?_
  refine WL.negI rfl rfl (by omega) ?_
  refine jN 7 ?_
  refine WA.splitB (i := 13) rfl (fun h13 => ?_) (fun h13 => ?_)
  ·refine jN 16 ?_
   refine WQ.ret (rs := [.tmp 4]) rfl (.tmp rfl .nil) (fun w hS => ⟨?_, hS⟩)
   first | (simp_all [tup, Fm.litB]; done) | (simp_all [tup, Fm.litB]; omega)
  ·refine jN 13 ?_
   refine WQ.ret (rs := [.tmp 4]) rfl (.tmp rfl .nil) (fun w hS => ⟨?_, hS⟩)
   first | (simp_all [tup, Fm.litB]; done) | (simp_all [tup, Fm.litB]; omega)
 ·refine jN 25 ?_
  refine WQ.ret (rs := [.tmp 4]) rfl (.tmp rfl .nil) (fun w hS => ⟨?_, hS⟩)
  first | (simp_all [tup, Fm.litB]; done) | (simp_all [tup, Fm.litB]; omega)

theorem fits1_c (n l : Int) (hn : -1000 ≤ n ∧ n ≤ 1000) (bn : Nat) (w : World) (hb : w.heap[bn]? = some (.cells [Value.int .i64 n].toArray 3 (0, 0))) : Pure Tryz.prog 65 [.int .i64 l, pp bn] w (.bool (!Fm.litB n l)) := by
 refine enter Tryz.func65 rfl Tryz.ntmps65 rfl (St.init _) ?_
 refine jN 9 ?_
 refine WL.load1 F.one3 rfl rfl (fun w hS => hS.oldc (cell_of_heap hb rfl) (by simp)) ?_
 refine jN 3 ?_
 refine WL.callV F.fun66 rfl rfl (fun w _ => literal_c n l hn w) ?_
 refine jN 7 ?_
 exact WQ.ret (rs := [.tmp 3]) rfl (.tmp rfl .nil) (fun w hS => ⟨rfl, hS⟩)

theorem all_take {p : Int → Bool} {c : List Int} {i : Nat} {x : Int} (h : c[i]? = some x) : (c.take (i + 1)).all p = ((c.take i).all p && p x) := by
 rw [List.take_add_one, h]; simp

theorem indexC_c (n : Int) (hn : -1000 ≤ n ∧ n ≤ 1000) (c : List Int) (a : Option Addr) (cap bn : Nat) (hlen : c.length ≤ 1000) (w : World) (hb : w.heap[bn]? = some (.cells [Value.int .i64 n].toArray 3 (0, 0))) (hr : RdC w c a) :
  Calls Tryz.prog 81 [.slice a c.length cap, .func (.func 65) [].toArray [pp bn].toArray].toArray w fun e w' => ∃ r : { r : Int // decide (0 ≤ r) = !c.all (Fm.litB n) }, e = .returned (.int .i64 r.1) ∧ St w [] [] w' := by
 refine enter Tryz.func81 rfl Tryz.ntmps81 rfl (St.init _) ?_
 refine jN 18 ?_
 refine WC.loop (α := Nat) (fun i => i ≤ c.length ∧ (c.take i).all (Fm.litB n) = true) (fun i => [(0, .slice a c.length cap), (1, .func (.func 65) [].toArray [pp bn].toArray), (7, .int .i64 (c.length : Int)), (8, .int .i64 (i : Int))]) (fun _ => []) (fun i => c.length - i) (0) ?_ ?_ ?_ ?_
 ·exact ⟨Nat.zero_le _, rfl⟩
 ·exact ⟨rfl, rfl, rfl, rfl, trivial⟩
 ·rfl
 rintro i ⟨hi, hno⟩
 refine jN 7 ?_
 refine WC.cond rfl (fun h9 => ?_) (fun h9 => ?_)
 ·have hlt : i < c.length := by simpa using h9
  obtain ⟨x, hx⟩ : ∃ x, c[i]? = some x := ⟨_, List.getElem?_eq_getElem hlt⟩
  obtain ⟨b, off, rfl, hcell⟩ := hr i x hx
  refine jN 21 ?_
  refine WL.indexAddr F.sl46 rfl rfl rfl hlt ?_
  refine jN 1 ?_
  refine WL.load1 F.one3 rfl rfl (v := .int .i64 x) (fun w hS => hS.oldc (by simpa using hcell) (by simp)) ?_
  refine jN 1 ?_
  refine WL.callFC (β := Unit) (res := fun _ => .bool (!Fm.litB n x)) (cs := fun _ => []) (Cs := []) (O' := []) (us := []) (cap := [pp bn]) F.fun65 (fun d h => by cases h; rfl) rfl rfl (List.Perm.refl _) (by simp) (by simp) (fun w hS _ => (fits1_c n x hn bn w (hS.oldh hb (by simp))).mono (fun e w2 h => ⟨(), h⟩)) (fun _ => ?_)
  refine jN 2 ?_
  refine WC.cond rfl (fun h16 => ?_) (fun h16 => ?_)
  ·refine jN 14 ?_
   refine WQ.ret (rs := [.tmp 4]) rfl (.tmp rfl .nil) (fun w hS => ⟨⟨(i : Int), ?_⟩, rfl, hS⟩)
   have h2 : c.all (Fm.litB n) = false := by
    rw [List.all_eq_false]
    exact ⟨x, List.mem_of_getElem? hx, by simpa using h16⟩
   rw [h2]; simp
  ·refine jN 9 ?_
   refine WQ.back (i + 1) ?_ ?_ ?_ ?_
   ·exact ⟨by omega, by rw [all_take hx, hno]; simpa using h16⟩
   ·omega
   ·exact ⟨rfl, rfl, rfl, rfl, trivial⟩
   ·rfl
 ·have hie : i = c.length := by simp at h9; omega
  subst hie
  rw [List.take_length] at hno
  refine jN 12 ?_
  refine WQ.ret (rs := [.tmp 4]) rfl (.tmp rfl .nil) (fun w hS => ⟨⟨-1, ?_⟩, rfl, hS⟩)
  rw [hno]; rfl

theorem containsC_c (n : Int) (hn : -1000 ≤ n ∧ n ≤ 1000) (c : List Int) (a : Option Addr) (cap bn : Nat) (hlen : c.length ≤ 1000) (w : World) (hb : w.heap[bn]? = some (.cells [Value.int .i64 n].toArray 3 (0, 0))) (hr : RdC w c a) :
  Pure Tryz.prog 64 [.slice a c.length cap, .func (.func 65) [].toArray [pp bn].toArray] w (.bool (!c.all (Fm.litB n))) := by
 refine enter Tryz.func64 rfl Tryz.ntmps64 rfl (St.init _) ?_
 refine jN 13 ?_
 refine jC (β := { r : Int // decide (0 ≤ r) = !c.all (Fm.litB n) }) (res := fun r => .int .i64 r.1) (cs := fun _ => []) F.fun81 rfl (fun w hS _ => indexC_c n hn c a cap bn hlen w (hS.oldh hb (by simp)) (hr.next hS)) (fun r => ?_)
 refine jN 7 ?_
 refine WQ.ret (rs := [.tmp 4]) rfl (.tmp rfl .nil) (fun w hS => ⟨?_, hS⟩)
 exact congrArg (fun b => Ending.returned (Value.bool b)) r.2

theorem fits_c (n : Int) (hn : -1000 ≤ n ∧ n ≤ 1000) (c : List Int) (a : Option Addr) (cap : Nat) (w : World) (hr : RdC w c a) : Pure Tryz.prog 45 [.int .i64 n, .slice a c.length cap] w (.bool (Fm.fitsB n c)) := by
 refine enter Tryz.func45 rfl Tryz.ntmps45 rfl (St.init _) ?_
 refine jN 3 ?_
 refine WL.box1 rfl rfl rfl (fun b2 => ?_)
 refine jN 14 ?_
 refine WA.splitB (i := 8) rfl (fun h8 => ?_) (fun h8 => ?_)
 ·have hl64 : c.length ≤ 64 := by simp at h8; omega
  refine jN 8 ?_
  refine WL.callV F.fun64 rfl rfl (fun w hS => containsC_c n hn c a cap b2 (by omega) w (hS.heap (cs := [.int .i64 n]) (e := 3) jM) (fun j x hx => ?_)) ?_
  ·obtain ⟨b, off, ha, hc⟩ := hr j x hx
   exact ⟨b, off, ha, hS.oldc hc (by simp)⟩
  refine jN 10 ?_
  refine WQ.ret (rs := [.tmp 4]) rfl (.tmp rfl .nil) (fun w hS => ⟨?_, hS.drop⟩)
  first | (have h9 : c.length ≤ 64 := hl64; simp [tup, Fm.fitsB, h9]; done) | (have h9 : ¬ c.length ≤ 64 := (by simp at h8; omega); simp [tup, Fm.fitsB, h9]; done)
 ·refine jN 15 ?_
  refine WQ.ret (rs := [.tmp 4]) rfl (.tmp rfl .nil) (fun w hS => ⟨?_, hS.drop⟩)
  first | (have h9 : c.length ≤ 64 := hl64; simp [tup, Fm.fitsB, h9]; done) | (have h9 : ¬ c.length ≤ 64 := (by simp at h8; omega); simp [tup, Fm.fitsB, h9]; done)

theorem may_c (n : Int) (ls : List (List Int)) (a : Option Addr) (cap : Nat) (us : List Value) (w : World) (hr : RdLL w ls a us) : Pure Tryz.prog 25 [.int .i64 n, .slice a ls.length cap] w (.int .i64 (Fm.mayE n ls)) := by
 refine enter Tryz.func25 rfl Tryz.ntmps25 rfl (St.init _) ?_
 refine jN 15 ?_
 refine WA.splitB (i := 9) rfl (fun h9 => ?_) (fun h9 => ?_)
 ·have hm : Fm.mayE n ls = 3 := by (unfold Fm.mayE; rw [if_pos]; left; simpa using h9)
  refine jN 17 ?_
  refine WQ.ret (rs := [.tmp 4]) rfl (.tmp rfl .nil) (fun w hS => ⟨?_, hS⟩)
  rw [hm]; rfl
 ·refine jN 10 ?_
  refine WC.cond rfl (fun h12 => ?_) (fun h12 => ?_)
  ·have hm : Fm.mayE n ls = 3 := by (unfold Fm.mayE; rw [if_pos]; first | (right; simpa using h12) | (left; simpa using h9))
   refine jN 8 ?_
   refine WQ.ret (rs := [.tmp 4]) rfl (.tmp rfl .nil) (fun w hS => ⟨?_, hS⟩)
   rw [hm]; rfl
  ·have hn0 : ¬ (n < 0 ∨ 24 < n) := by (simp at h9 h12; omega)
   have hnb : -1000 ≤ n ∧ n ≤ 1000 := by omega
   refine jN 13 ?_
   refine WC.cond rfl (fun h15 => ?_) (fun h15 => ?_)
   ·have hm : Fm.mayE n ls = 2 := by (unfold Fm.mayE; rw [if_neg hn0, if_pos]; simp at h15; omega)
    refine jN 8 ?_
    refine WQ.ret (rs := [.tmp 4]) rfl (.tmp rfl .nil) (fun w hS => ⟨?_, hS⟩)
    rw [hm]; rfl
   ·have hl0 : ¬ 4096 < ls.length := by (simp at h15; omega)
    refine jN 14 ?_
    refine WC.loop (α := Nat) (fun i => i ≤ ls.length ∧ (ls.take i).all (Fm.fitsB n) = true) (fun i => [(0, .int .i64 n), (16, .slice a ls.length cap), (17, .int .i64 (ls.length : Int)), (18, .int .i64 (i : Int))]) (fun _ => []) (fun i => ls.length - i) (0) ?_ ?_ ?_ ?_
    ·exact ⟨Nat.zero_le _, rfl⟩
    ·exact ⟨rfl, rfl, rfl, rfl, trivial⟩
    ·rfl
    rintro i ⟨hi, hno⟩
    refine jN 7 ?_
    refine WC.cond rfl (fun h19 => ?_) (fun h19 => ?_)
    ·have hlt : i < ls.length := by simpa using h19
     obtain ⟨c, b, off, a1, cap1, hc, rfl, hcell, hrc⟩ := hr.at hlt
     refine jN 7 ?_
     refine WL.indexAddr F.sl23 rfl rfl rfl hlt ?_
     refine jN 1 ?_
     refine WL.load1 F.one46 rfl rfl (v := .slice a1 c.length cap1) (fun w hS => hS.oldc (by simpa using hcell) (by simp)) ?_
     refine jN 11 ?_
     refine WL.callV F.fun45 rfl rfl (fun w hS => fits_c n hnb c a1 cap1 w (hrc.next hS)) ?_
     refine jN 4 ?_
     refine WC.cond rfl (fun h25 => ?_) (fun h25 => ?_)
     ·have hm : Fm.mayE n ls = 2 := by
       unfold Fm.mayE; rw [if_neg hn0, if_neg hl0, if_neg]
       rw [Bool.not_eq_true, List.all_eq_false]
       exact ⟨c, List.mem_of_getElem? hc, by simpa using h25⟩
      refine jN 12 ?_
      refine WQ.ret (rs := [.tmp 4]) rfl (.tmp rfl .nil) (fun w hS => ⟨?_, hS⟩)
      rw [hm]; rfl
     ·refine jN 9 ?_
      refine WQ.back (i + 1) ?_ ?_ ?_ ?_
      ·exact ⟨by omega, by rw [List.take_add_one, hc]; simp only [Option.toList, List.all_append, hno, List.all_cons, List.all_nil]; simpa using h25⟩
      ·omega
      ·exact ⟨rfl, rfl, rfl, rfl, trivial⟩
      ·rfl
    ·have hie : i = ls.length := by simp at h19; omega
     subst hie
     rw [List.take_length] at hno
     have hm : Fm.mayE n ls = 0 := by (unfold Fm.mayE; rw [if_neg hn0, if_neg hl0, if_pos hno])
     refine jN 12 ?_
     refine WQ.ret (rs := [.tmp 4]) rfl (.tmp rfl .nil) (fun w hS => ⟨?_, hS⟩)
     rw [hm]; rfl

end Go.Proofs.YtkgllhkhdjodeaaGreatDoor

namespace Go.Proofs.YtkgllhkhdjodeaaGreatDoor
open Go Go.Eng Go.Proofs
theorem pow32 {k : Nat} (h : k < 32) : 2 ^ k < 4294967296 := Nat.lt_of_lt_of_le (Nat.pow_lt_pow_right (by decide) h) (by decide)
theorem KB.with {k : Fm.Kn} {l : Int} (hk : KB k) (hl : l ≠ 0 ∧ -32 ≤ l ∧ l ≤ 32) : KB (Fm.withK k l) := by
 unfold Fm.withK
 split
 ·exact ⟨Nat.or_lt_two_pow (n := 32) hk.1 (pow32 (by omega)), hk.2⟩
 ·exact ⟨hk.1, Nat.or_lt_two_pow (n := 32) hk.2 (pow32 (by omega))⟩
abbrev Lit (l : Int) : Prop := l ≠ 0 ∧ -32 ≤ l ∧ l ≤ 32

theorem has_c (k : Fm.Kn) (l : Int) (hk : KB k) (hl : Lit l) (w : World) : Pure Tryz.prog 41 [kv k, .int .i64 l] w (.bool (Fm.hasK k l)) := by
 refine enter Tryz.func41 rfl Tryz.ntmps41 rfl (St.init _) ?_
 refine jN 3 ?_
 refine WL.boxN rfl rfl (fun b2 => ?_)
 refine jN 13 ?_
 refine WC.cond rfl (fun h6 => ?_) (fun h6 => ?_)
 ·have hp : 0 < l := by simpa using h6
  refine jN 10 ?_
  refine WA.say 10 (.int .i64 (((l - 1).toNat : Nat) : Int)) (congrArg (fun z => some (Value.int .i64 z)) (show l - 1 = (((l - 1).toNat : Nat) : Int) by omega)) ?_
  refine jN 1 ?_
  refine WL.bin (v := .int .u32 (((k.1 >>> (l - 1).toNat : Nat)) : Int)) rfl rfl rfl (fun w => run_shr (by omega) _ _ _ w) ?_
  refine jN 1 ?_
  refine WL.bin (v := .int .u32 ((((k.1 >>> (l - 1).toNat) &&& 1 : Nat)) : Int)) rfl rfl rfl (fun w => run_and (Nat.lt_of_le_of_lt (Nat.shiftRight_le _ _) hk.1) (by decide) _ _ _ w) ?_
  refine jN 8 ?_
  refine WQ.ret (rs := [.tmp 4]) rfl (.tmp rfl .nil) (fun w hS => ⟨?_, hS.drop⟩)
  exact congrArg (fun b => Ending.returned (Value.bool b)) ((Fm.testBit_shift k.1 (l - 1).toNat).trans (by unfold Fm.hasK; rw [if_pos hp]))
 ·have hp : ¬ 0 < l := by simpa using h6
  refine jN 11 ?_
  refine WL.negI rfl rfl (by omega) ?_
  refine jN 2 ?_
  refine WA.say 18 (.int .i64 (((-l - 1).toNat : Nat) : Int)) (congrArg (fun z => some (Value.int .i64 z)) (show -l - 1 = (((-l - 1).toNat : Nat) : Int) by omega)) ?_
  refine jN 1 ?_
  refine WL.bin (v := .int .u32 (((k.2 >>> (-l - 1).toNat : Nat)) : Int)) rfl rfl rfl (fun w => run_shr (by omega) _ _ _ w) ?_
  refine jN 1 ?_
  refine WL.bin (v := .int .u32 ((((k.2 >>> (-l - 1).toNat) &&& 1 : Nat)) : Int)) rfl rfl rfl (fun w => run_and (Nat.lt_of_le_of_lt (Nat.shiftRight_le _ _) hk.2) (by decide) _ _ _ w) ?_
  refine jN 7 ?_
  refine WQ.ret (rs := [.tmp 4]) rfl (.tmp rfl .nil) (fun w hS => ⟨?_, hS.drop⟩)
  exact congrArg (fun b => Ending.returned (Value.bool b)) ((Fm.testBit_shift k.2 (-l - 1).toNat).trans (by unfold Fm.hasK; rw [if_neg hp]))

theorem with_c (k : Fm.Kn) (l : Int) (hk : KB k) (hl : Lit l) (w : World) : Pure Tryz.prog 39 [kv k, .int .i64 l] w (kv (Fm.withK k l)) := by
 refine enter Tryz.func39 rfl Tryz.ntmps39 rfl (St.init _) ?_
 refine jN 3 ?_
 refine WL.boxN rfl rfl (fun b2 => ?_)
 refine jN 1 ?_
 refine WL.alloc F.zero82 rfl (fun b4 => ?_)
 refine jN 11 ?_
 refine WC.cond rfl (fun h6 => ?_) (fun h6 => ?_)
 ·have hp : 0 < l := by simpa using h6
  have hw : Fm.withK k l = (k.1 ||| 2 ^ (l - 1).toNat, k.2) := by unfold Fm.withK; rw [if_pos hp]
  refine WC.draws [([7], fun w => w.cell? ⟨b2, 0, none⟩ = some (.int .u32 (k.1 : Int)))] (by kernel_rfl) (fun w hS => facts_cons (hS.cell jM rfl) (facts_nil)) ?_
  refine jT 0 rfl (Yl.fieldAddr0 F.fld82_0 rfl) ?_
  refine jF 1 0 rfl rfl (Yl.load1 F.one41 rfl) ?_
  refine jT 2 rfl (Yl.move rfl) ?_
  refine jT 3 rfl (Yl.as (Yl.sub rfl rfl ⟨by omega, by omega⟩) (congrArg (Value.int .i64) (show l - 1 = (((l - 1).toNat : Nat) : Int) by omega))) ?_
  refine jT 4 rfl (Yl.bin (v := .int .u32 ((2 ^ (l - 1).toNat : Nat) : Int)) rfl rfl (fun w => run_shl1 (by omega) _ _ _ w)) ?_
  refine jT 5 rfl (Yl.bin (v := .int .u32 ((k.1 ||| 2 ^ (l - 1).toNat : Nat) : Int)) rfl rfl (fun w => run_or hk.1 (pow32 (by omega)) _ _ _ w)) ?_
  refine jT 6 rfl (Yl.fieldAddr0 F.fld82_0 rfl) ?_
  refine jA 7 rfl ?_
  refine WL.store1 F.one41 rfl rfl rfl jU jS ?_
  refine jG ?_
  refine jD ?_
  refine jN 10 ?_
  refine WQ.ret (rs := [.cell 4 82]) rfl (.cellN F.agg82 rfl jM rfl .nil) (fun w hS => ⟨?_, hS.drop.drop⟩)
  rw [hw]; rfl
 ·have hp : ¬ 0 < l := by simpa using h6
  have hw : Fm.withK k l = (k.1, k.2 ||| 2 ^ (-l - 1).toNat) := by unfold Fm.withK; rw [if_neg hp]
  refine WC.draws [([8], fun w => w.cell? ⟨b2, 1, none⟩ = some (.int .u32 (k.2 : Int)))] (by kernel_rfl) (fun w hS => facts_cons (hS.cell jM rfl) (facts_nil)) ?_
  refine jT 0 rfl (Yl.fieldAddr0 F.fld82_1 rfl) ?_
  refine jF 1 0 rfl rfl (Yl.load1 F.one41 rfl) ?_
  refine jT 2 rfl (Yl.move rfl) ?_
  refine jT 3 rfl (Yl.negI rfl (by omega)) ?_
  refine jT 4 rfl (Yl.as (Yl.sub rfl rfl ⟨by omega, by omega⟩) (congrArg (Value.int .i64) (show -l - 1 = (((-l - 1).toNat : Nat) : Int) by omega))) ?_
  refine jT 5 rfl (Yl.bin (v := .int .u32 ((2 ^ (-l - 1).toNat : Nat) : Int)) rfl rfl (fun w => run_shl1 (by omega) _ _ _ w)) ?_
  refine jT 6 rfl (Yl.bin (v := .int .u32 ((k.2 ||| 2 ^ (-l - 1).toNat : Nat) : Int)) rfl rfl (fun w => run_or hk.2 (pow32 (by omega)) _ _ _ w)) ?_
  refine jT 7 rfl (Yl.fieldAddr0 F.fld82_1 rfl) ?_
  refine jA 8 rfl ?_
  refine WL.store1 F.one41 rfl rfl rfl jU jS ?_
  refine jG ?_
  refine jD ?_
  refine jN 10 ?_
  refine WQ.ret (rs := [.cell 4 82]) rfl (.cellN F.agg82 rfl jM rfl .nil) (fun w hS => ⟨?_, hS.drop.drop⟩)
  rw [hw]; rfl

theorem unitG_drop {k : Fm.Kn} {c : List Int} {i : Nat} {x op : Int} (h : c[i]? = some x) : Fm.unitG k op (c.drop i) = if Fm.hasK k x then (0, false) else if Fm.hasK k (-x) || x == op then Fm.unitG k op (c.drop (i + 1)) else if op ≠ 0 then (0, false) else Fm.unitG k x (c.drop (i + 1)) := by
 obtain ⟨hi, he⟩ := List.getElem?_eq_some_iff.1 h
 rw [List.drop_eq_getElem_cons hi, he]
 simp only [Fm.unitG]
theorem unitG_mem {k : Fm.Kn} {x : Int} : ∀ {c : List Int} {op : Int}, Fm.unitG k op c = (x, true) → x = op ∨ x ∈ c
 | [], op, h => by simp only [Fm.unitG, Prod.mk.injEq, and_true] at h; exact .inl h.symm
 | l :: ls, op, h => by
  simp only [Fm.unitG] at h
  split at h
  ·simp at h
  split at h
  ·rcases unitG_mem h with h1 | h1
   ·exact .inl h1
   ·exact .inr (List.mem_cons_of_mem _ h1)
  split at h
  ·simp at h
  ·rcases unitG_mem h with h1 | h1
   ·exact .inr (by rw [h1]; exact List.mem_cons_self ..)
   ·exact .inr (List.mem_cons_of_mem _ h1)

theorem unit_c (k : Fm.Kn) (c : List Int) (a : Option Addr) (cap : Nat) (hk : KB k) (hc : ∀ x ∈ c, Lit x) (hlen : c.length ≤ 1099511627776) (w : World) (hr : RdC w c a) :
  Pure Tryz.prog 58 [kv k, .slice a c.length cap] w (.tuple #[.int .i64 (Fm.unitK k c).1, .bool (Fm.unitK k c).2]) := by
 refine enter Tryz.func58 rfl Tryz.ntmps58 rfl (St.init _) ?_
 refine jN 3 ?_
 refine WL.boxN rfl rfl (fun b2 => ?_)
 refine jN 24 ?_
 refine WC.loop (α := Nat × Int) (fun g => g.1 ≤ c.length ∧ Fm.unitG k g.2 (c.drop g.1) = Fm.unitK k c) (fun g => [(2, pp b2), (6, .int .i64 g.2), (9, .slice a c.length cap), (10, .int .i64 (c.length : Int)), (11, .int .i64 (g.1 : Int))]) (fun _ => [pt b2 [.int .u32 (k.1 : Int), .int .u32 (k.2 : Int)] 82]) (fun g => c.length - g.1) ((0, 0)) ?_ ?_ ?_ ?_
 ·exact ⟨Nat.zero_le _, rfl⟩
 ·exact ⟨rfl, rfl, rfl, rfl, rfl, trivial⟩
 ·rfl
 rintro ⟨i, op⟩ ⟨hi, hu⟩
 dsimp only at hi hu
 show WC _ _ _ _ _ _ _ [(2, pp b2), (6, .int .i64 op), (9, .slice a c.length cap), (10, .int .i64 (c.length : Int)), (11, .int .i64 (i : Int))] [pt b2 [.int .u32 (k.1 : Int), .int .u32 (k.2 : Int)] 82]
 refine jN 7 ?_
 refine WC.cond rfl (fun h12 => ?_) (fun h12 => ?_)
 ·have hlt : i < c.length := by simpa using h12
  obtain ⟨x, hx⟩ : ∃ x, c[i]? = some x := ⟨_, List.getElem?_eq_getElem hlt⟩
  obtain ⟨b, off, rfl, hcell⟩ := hr i x hx
  have hxl := hc x (List.mem_of_getElem? hx)
  have hxn : Lit (-x) := ⟨by omega, by omega, by omega⟩
  have hu2 := hu
  rw [unitG_drop hx] at hu2
  refine jN 7 ?_
  refine WL.indexAddr F.sl46 rfl rfl rfl hlt ?_
  refine jN 1 ?_
  refine WL.load1 F.one3 rfl rfl (v := .int .i64 x) (fun w hS => hS.oldc (by simpa using hcell) (by simp)) ?_
  refine jN 12 ?_
  refine WL.callV F.fun41 rfl rfl (fun w _ => has_c k x hk hxl w) ?_
  refine jN 4 ?_
  refine WC.cond rfl (fun h16 => ?_) (fun h16 => ?_)
  ·rw [h16] at hu2
   refine jN 15 ?_
   refine WQ.ret (rs := [.tmp 4, .tmp 5]) rfl (.tmp rfl (.tmp rfl .nil)) (fun w hS => ⟨?_, hS.drop⟩)
   rw [← hu2]; rfl
  ·rw [h16] at hu2
   simp only [Bool.false_eq_true, if_false] at hu2
   refine jN 7 ?_
   refine WL.negI rfl rfl (by omega) ?_
   refine jN 1 ?_
   refine WL.callV F.fun41 rfl rfl (fun w _ => has_c k (-x) hk hxn w) ?_
   refine jN 2 ?_
   refine WA.splitB (i := 25) rfl (fun h25 => ?_) (fun h25 => ?_)
   ·rw [h25] at hu2
    simp only [Bool.true_or, if_true] at hu2
    refine jN 23 ?_
    refine WQ.back ((i + 1, op)) ?_ ?_ ?_ ?_
    ·exact ⟨by show i + 1 ≤ c.length; omega, hu2⟩
    ·(show c.length - (i + 1) < c.length - i; omega)
    ·exact ⟨rfl, rfl, rfl, rfl, rfl, trivial⟩
    ·rfl
   ·rw [h25] at hu2
    simp only [Bool.false_or] at hu2
    refine jN 15 ?_
    refine WC.cond rfl (fun h20 => ?_) (fun h20 => ?_)
    ·have h20b : (x == op) = true := h20
     rw [h20b] at hu2
     simp only [if_true] at hu2
     refine jN 10 ?_
     refine WQ.back ((i + 1, op)) ?_ ?_ ?_ ?_
     ·exact ⟨by show i + 1 ≤ c.length; omega, hu2⟩
     ·(show c.length - (i + 1) < c.length - i; omega)
     ·exact ⟨rfl, rfl, rfl, rfl, rfl, trivial⟩
     ·rfl
    ·have h20b : (x == op) = false := h20
     rw [h20b] at hu2
     simp only [Bool.false_eq_true, if_false] at hu2
     refine jN 10 ?_
     refine WC.cond rfl (fun h30 => ?_) (fun h30 => ?_)
     ·have hop : op ≠ 0 := by simpa using h30
      rw [if_pos hop] at hu2
      refine jN 15 ?_
      refine WQ.ret (rs := [.tmp 4, .tmp 5]) rfl (.tmp rfl (.tmp rfl .nil)) (fun w hS => ⟨?_, hS.drop⟩)
      rw [← hu2]; rfl
     ·have hop : op = 0 := by simpa using h30
      rw [if_neg (by simpa using hop)] at hu2
      refine jN 15 ?_
      refine WQ.back ((i + 1, x)) ?_ ?_ ?_ ?_
      ·exact ⟨by show i + 1 ≤ c.length; omega, hu2⟩
      ·(show c.length - (i + 1) < c.length - i; omega)
      ·exact ⟨rfl, rfl, rfl, rfl, rfl, trivial⟩
      ·rfl
 ·have hie : i = c.length := by simp at h12; omega
  subst hie
  rw [List.drop_length] at hu
  refine jN 16 ?_
  refine WQ.ret (rs := [.tmp 4, .tmp 5]) rfl (.tmp rfl (.tmp rfl .nil)) (fun w hS => ⟨?_, hS.drop⟩)
  rw [← hu]; rfl

end Go.Proofs.YtkgllhkhdjodeaaGreatDoor

namespace Go.Proofs.YtkgllhkhdjodeaaGreatDoor
open Go Go.Eng Go.Proofs
theorem passK_drop {ls : List (List Int)} {i : Nat} {c : List Int} {k : Fm.Kn} {ag : Bool} (h : ls[i]? = some c) :
  Fm.passK (ls.drop i) k ag = if Fm.clash k then .inl k else if (Fm.unitK k c).2 && (Fm.unitK k c).1 == 0 then .inl k else if (Fm.unitK k c).2 then Fm.passK (ls.drop (i + 1)) (Fm.withK k (Fm.unitK k c).1) true else Fm.passK (ls.drop (i + 1)) k ag := by
 obtain ⟨hi, he⟩ := List.getElem?_eq_some_iff.1 h
 rw [List.drop_eq_getElem_cons hi, he]
 simp only [Fm.passK]
theorem clash_ne {k : Fm.Kn} : (((k.1 &&& k.2 : Nat) : Int) != 0) = Fm.clash k := by
 unfold Fm.clash
 rw [bne, Bool.eq_iff_iff]
 simp
theorem clash_eq {k : Fm.Kn} : (((k.1 &&& k.2 : Nat) : Int) == 0) = !Fm.clash k := by
 rw [← clash_ne, bne, Bool.not_not]

theorem closed_c (ls : List (List Int)) (a : Option Addr) (cap : Nat) (us : List Value) (k : Fm.Kn) (f : Nat) (r : Fm.Kn × Bool) (hk : KB k) (hls : ∀ c ∈ ls, ∀ x ∈ c, Lit x) (hcl : ∀ c ∈ ls, c.length ≤ 1099511627776) (hlen : ls.length ≤ 1099511627776)
  (w : World) (hr : RdLL w ls a us) (h : Fm.closedF f ls k = some r) : Pure Tryz.prog 40 [.slice a ls.length cap, kv k] w (.tuple #[kv r.1, .bool r.2]) := by
 refine enter Tryz.func40 rfl Tryz.ntmps40 rfl (St.init _) ?_
 refine jN 3 ?_
 refine WL.boxN rfl rfl (fun b3 => ?_)
 refine jN 1 ?_
 refine WL.alloc F.zero82 rfl (fun b4 => ?_)
 refine jN 12 ?_
 refine WC.loop (α := Nat × Fm.Kn × Bool) (fun g => KB g.2.1 ∧ (g.2.2 = true → Fm.closedF g.1 ls g.2.1 = some r) ∧ (g.2.2 = false → r = (g.2.1, !Fm.clash g.2.1))) (fun g => [(0, .slice a ls.length cap), (3, pp b3), (4, pp b4), (6, .bool g.2.2)]) (fun g => [pt b4 [.int .u32 0, .int .u32 0] 82, pt b3 [.int .u32 (g.2.1.1 : Int), .int .u32 (g.2.1.2 : Int)] 82]) (fun g => if g.2.2 then g.1 + 1 else 0) ((f, k, true)) ?_ ?_ ?_ ?_
 ·exact ⟨hk, fun _ => h, fun h0 => by cases h0⟩
 ·exact ⟨rfl, rfl, rfl, rfl, trivial⟩
 ·rfl
 rintro ⟨f, k, ag⟩ ⟨hk, hT, hF⟩
 dsimp only at hk hT hF
 show WC _ _ _ _ _ _ _ [(0, .slice a ls.length cap), (3, pp b3), (4, pp b4), (6, .bool ag)] [pt b4 [.int .u32 0, .int .u32 0] 82, pt b3 [.int .u32 (k.1 : Int), .int .u32 (k.2 : Int)] 82]
 refine jN 7 ?_
 refine WC.cond rfl (fun h11 => ?_) (fun h11 => ?_)
 ·subst h11
  have hcf := hT rfl
  obtain ⟨f, rfl⟩ : ∃ f2, f = f2 + 1 := by cases f with | zero => simp [Fm.closedF] at hcf | succ f => exact ⟨f, rfl⟩
  simp only [Fm.closedF] at hcf
  obtain ⟨pr, hpr⟩ : ∃ pr, pr = Fm.passK ls k false := ⟨_, rfl⟩
  rw [← hpr] at hcf
  refine jN 20 ?_
  refine WC.loop (α := Nat × Fm.Kn × Bool) (fun g => g.1 ≤ ls.length ∧ KB g.2.1 ∧ Fm.passK (ls.drop g.1) g.2.1 g.2.2 = pr) (fun g => [(0, .slice a ls.length cap), (3, pp b3), (4, pp b4), (6, .bool g.2.2), (12, .slice a ls.length cap), (13, .int .i64 (ls.length : Int)), (14, .int .i64 (g.1 : Int))]) (fun g => [pt b4 [.int .u32 0, .int .u32 0] 82, pt b3 [.int .u32 (g.2.1.1 : Int), .int .u32 (g.2.1.2 : Int)] 82]) (fun g => ls.length - g.1) ((0, k, false)) ?_ ?_ ?_ ?_
  ·exact ⟨Nat.zero_le _, hk, hpr.symm⟩
  ·exact ⟨rfl, rfl, rfl, rfl, rfl, rfl, rfl, trivial⟩
  ·rfl
  rintro ⟨i, k, ag⟩ ⟨hi, hk, hpass⟩
  dsimp only at hi hk hpass
  show WC _ _ _ _ _ _ _ [(0, .slice a ls.length cap), (3, pp b3), (4, pp b4), (6, .bool ag), (12, .slice a ls.length cap), (13, .int .i64 (ls.length : Int)), (14, .int .i64 (i : Int))] [pt b4 [.int .u32 0, .int .u32 0] 82, pt b3 [.int .u32 (k.1 : Int), .int .u32 (k.2 : Int)] 82]
  refine jN 7 ?_
  refine WC.cond rfl (fun h15 => ?_) (fun h15 => ?_)
  ·have hlt : i < ls.length := by simpa using h15
   obtain ⟨c, b, off, a1, cap1, hc, rfl, hcell, hrc⟩ := hr.at hlt
   have hpass2 := hpass
   rw [passK_drop hc] at hpass2
   have hcm := List.mem_of_getElem? hc
   refine jN 7 ?_
   refine WL.indexAddr F.sl23 rfl rfl rfl hlt ?_
   refine jN 1 ?_
   refine WL.load1 F.one46 rfl rfl (v := .slice a1 c.length cap1) (fun w hS => hS.oldc (by simpa using hcell) (by simp)) ?_
   refine jN 16 ?_
   refine WL.bin (v := .int .u32 ((k.1 &&& k.2 : Nat) : Int)) rfl rfl rfl (fun w => run_and hk.1 hk.2 _ _ _ w) ?_
   refine jN 4 ?_
   refine WC.cond rfl (fun h23 => ?_) (fun h23 => ?_)
   ·rw [clash_ne] at h23
    rw [if_pos h23] at hpass2
    rw [← hpass2] at hcf
    have hr3 : (k, false) = r := by simpa using hcf
    subst hr3
    refine jN 20 ?_
    refine WQ.ret (rs := [.cell 4 82, .tmp 5]) rfl (.cellN F.agg82 rfl jM rfl (.tmp rfl .nil)) (fun w hS => ⟨?_, hS.drop.drop⟩)
    rfl
   ·rw [clash_ne] at h23
    rw [if_neg (by rw [h23]; decide)] at hpass2
    refine jN 9 ?_
    refine WL.callV F.fun58 rfl rfl (fun w hS => unit_c k c a1 cap1 hk (hls c hcm) (hcl c hcm) w (hrc.next hS)) ?_
    refine jN 19 ?_
    refine WA.splitB (i := 32) rfl (fun h32 => ?_) (fun h32 => ?_)
    ·refine jN 10 ?_
     refine WC.cond rfl (fun h35 => ?_) (fun h35 => ?_)
     ·rw [if_pos (by rw [h32]; exact h35)] at hpass2
      rw [← hpass2] at hcf
      have hr3 : (k, false) = r := by simpa using hcf
      subst hr3
      refine jN 20 ?_
      refine WQ.ret (rs := [.cell 4 82, .tmp 5]) rfl (.cellN F.agg82 rfl jM rfl (.tmp rfl .nil)) (fun w hS => ⟨?_, hS.drop.drop⟩)
      rfl
     ·refine jN 8 ?_
      refine WC.cond rfl (fun h37 => ?_) (fun h37 => ?_)
      ·have hx0 : (Fm.unitK k c).1 ≠ 0 := by first | (simpa using h35) | (exact absurd h37 (by rw [h32]; decide))
       have hxl : Lit (Fm.unitK k c).1 := by
        rcases unitG_mem (x := (Fm.unitK k c).1) (c := c) (op := 0) (k := k) (by have := h37; unfold Fm.unitK at this ⊢; rw [← this]) with h0 | h0
        ·exact absurd h0 hx0
        ·exact hls c hcm _ h0
       have hpass3 : Fm.passK (ls.drop (i + 1)) (Fm.withK k (Fm.unitK k c).1) true = pr := by
        rw [if_neg, if_pos h37] at hpass2
        ·exact hpass2
        ·simp [hx0]
       refine jN 7 ?_
       refine WL.callV F.fun39 rfl rfl (fun w _ => with_c k _ hk hxl w) ?_
       refine jN 16 ?_
       refine WQ.back ((i + 1, Fm.withK k (Fm.unitK k c).1, true)) ?_ ?_ ?_ ?_
       ·exact ⟨by show i + 1 ≤ ls.length; omega, hk.with hxl, hpass3⟩
       ·(show ls.length - (i + 1) < ls.length - i; omega)
       ·exact ⟨rfl, rfl, rfl, rfl, rfl, rfl, rfl, trivial⟩
       ·rfl
      ·have hpass3 : Fm.passK (ls.drop (i + 1)) k ag = pr := by
        rw [if_neg, if_neg] at hpass2
        ·exact hpass2
        ·rw [h37]; decide
        ·rw [h37]; simp
       refine jN 9 ?_
       refine WQ.back ((i + 1, k, ag)) ?_ ?_ ?_ ?_
       ·exact ⟨by show i + 1 ≤ ls.length; omega, hk, hpass3⟩
       ·(show ls.length - (i + 1) < ls.length - i; omega)
       ·exact ⟨rfl, rfl, rfl, rfl, rfl, rfl, rfl, trivial⟩
       ·rfl
    ·refine jN 17 ?_
     refine WC.cond rfl (fun h37 => ?_) (fun h37 => ?_)
     ·have hx0 : (Fm.unitK k c).1 ≠ 0 := by first | (simpa using h35) | (exact absurd h37 (by rw [h32]; decide))
      have hxl : Lit (Fm.unitK k c).1 := by
       rcases unitG_mem (x := (Fm.unitK k c).1) (c := c) (op := 0) (k := k) (by have := h37; unfold Fm.unitK at this ⊢; rw [← this]) with h0 | h0
       ·exact absurd h0 hx0
       ·exact hls c hcm _ h0
      have hpass3 : Fm.passK (ls.drop (i + 1)) (Fm.withK k (Fm.unitK k c).1) true = pr := by
       rw [if_neg, if_pos h37] at hpass2
       ·exact hpass2
       ·simp [hx0]
      refine jN 7 ?_
      refine WL.callV F.fun39 rfl rfl (fun w _ => with_c k _ hk hxl w) ?_
      refine jN 16 ?_
      refine WQ.back ((i + 1, Fm.withK k (Fm.unitK k c).1, true)) ?_ ?_ ?_ ?_
      ·exact ⟨by show i + 1 ≤ ls.length; omega, hk.with hxl, hpass3⟩
      ·(show ls.length - (i + 1) < ls.length - i; omega)
      ·exact ⟨rfl, rfl, rfl, rfl, rfl, rfl, rfl, trivial⟩
      ·rfl
     ·have hpass3 : Fm.passK (ls.drop (i + 1)) k ag = pr := by
       rw [if_neg, if_neg] at hpass2
       ·exact hpass2
       ·rw [h37]; decide
       ·rw [h37]; simp
      refine jN 9 ?_
      refine WQ.back ((i + 1, k, ag)) ?_ ?_ ?_ ?_
      ·exact ⟨by show i + 1 ≤ ls.length; omega, hk, hpass3⟩
      ·(show ls.length - (i + 1) < ls.length - i; omega)
      ·exact ⟨rfl, rfl, rfl, rfl, rfl, rfl, rfl, trivial⟩
      ·rfl
  ·have hie : i = ls.length := by simp at h15; omega
   subst hie
   refine jN 5 ?_
   rw [List.drop_length] at hpass
   have hpr2 : pr = .inr (k, ag) := hpass.symm
   rw [hpr2] at hcf
   simp only at hcf
   refine WQ.back ((f, k, ag)) ?_ ?_ ?_ ?_
   ·exact ⟨hk, fun h0 => by rw [show ag = true from h0] at hcf; simpa using hcf, fun h0 => by rw [show ag = false from h0] at hcf; simpa using hcf.symm⟩
   ·(show (if ag = true then f + 1 else 0) < f + 1 + 1; split <;> omega)
   ·exact ⟨rfl, rfl, rfl, rfl, trivial⟩
   ·rfl
 ·have hres := hF h11
  refine jN 6 ?_
  refine WC.draws [([7], fun w => ∀ j v, [Value.int .u32 (k.1 : Int), .int .u32 (k.2 : Int)][j]? = some v → w.cell? ⟨b3, 0 + j, none⟩ = some v), ([], fun w => w.cell? ⟨b3, 0, none⟩ = some (.int .u32 (k.1 : Int))), ([], fun w => w.cell? ⟨b3, 1, none⟩ = some (.int .u32 (k.2 : Int)))] (by kernel_rfl) (fun w hS => facts_cons (fun j v hv => by rw [Nat.zero_add]; exact hS.cell jM hv) (facts_cons (hS.cell jM rfl) (facts_cons (hS.cell jM rfl) (facts_nil)))) ?_
  refine jF 0 0 rfl rfl (Yl.loadN F.agg82 rfl rfl) ?_
  refine jT 1 rfl (Yl.fieldAddr0 F.fld82_0 rfl) ?_
  refine jF 2 1 rfl rfl (Yl.load1 F.one41 rfl) ?_
  refine jT 3 rfl (Yl.fieldAddr0 F.fld82_1 rfl) ?_
  refine jF 4 2 rfl rfl (Yl.load1 F.one41 rfl) ?_
  refine jT 5 rfl (Yl.bin (v := .int .u32 ((k.1 &&& k.2 : Nat) : Int)) rfl rfl (fun w => run_and hk.1 hk.2 _ _ _ w)) ?_
  refine jT 6 rfl (Yl.eqI rfl rfl) ?_
  refine jA 7 rfl ?_
  refine WL.storeN F.agg82 rfl rfl rfl jO jU jS ?_
  refine WD.on (closed_of (by kernel_rfl)) (fun w hS => Sx.gone rfl (Sx.keep (hS.cell jM rfl) (Sx.keep (hS.cell jM rfl) (Sx.none)))) ?_
  refine jT 8 rfl (Yl.assign rfl) ?_
  refine jD ?_
  refine jN 2 ?_
  refine WQ.ret (rs := [.cell 4 82, .tmp 5]) rfl (.cellN F.agg82 rfl jM rfl (.tmp rfl .nil)) (fun w hS => ⟨?_, hS.drop.drop⟩)
  rw [hres]
  exact congrArg (fun b => Ending.returned (Value.tuple #[kv k, Value.bool b])) clash_eq

end Go.Proofs.YtkgllhkhdjodeaaGreatDoor

namespace Go.Eng
open Go Go.RowKit
section
variable {P : Program} {w0 : World} {O : List Nat} {Q : Exit → Act → World → Prop} {N : Nat} {D : List Deferred} {L : FL} {C : List Chunk}
theorem WC.scope {c : Code} (h : WC P w0 O c (Exit.noGoto Q) N D L C) : WC P w0 O (.scope c) Q N D L C := fun a w hF hS => wp_scope_straight (h a w hF hS)
theorem WQ.scope_ret (h : WQ w0 O Q .ret N D L C) : WQ w0 O (Exit.noGoto Q) .ret N D L C := h
/-- Rows of numbers of the holder's own, by their headers. -/
def stepsC (F : List Nat) (vs : List Value) (ss : List (List Int)) : Chunk where
 fp k := k ∈ F
 ok w := vs.length = ss.length ∧ ∀ (i : Nat) (c : List Int) (u : Value), ss[i]? = some c → vs[i]? = some u → ∃ (a1 : Option Addr) (cap : Nat), u = Value.slice a1 c.length cap ∧ ∀ (j : Nat) (x : Int), c[j]? = some x → ∃ b, a1 = some ⟨b, 0, none⟩ ∧ b ∈ F ∧ w.cell? ⟨b, j, none⟩ = some (.int .i64 x)
 loc w w' h hw := ⟨hw.1, fun i c u hc hu => by
  obtain ⟨a1, cap, h1, h2⟩ := hw.2 i c u hc hu
  refine ⟨a1, cap, h1, fun j x hx => ?_⟩
  obtain ⟨b, hb1, hb2, hb3⟩ := h2 j x hx
  exact ⟨b, hb1, hb2, by rw [World.cell?_of_block (w := w) (w' := w') (a := ⟨b, j, none⟩) (h b hb2)]; exact hb3⟩⟩
theorem St.stepsNil {w : World} (h : St w0 O C w) : St w0 O (stepsC [] [] [] :: C) w :=
 ⟨h.os, h.tape, h.output, h.size, h.old, fun x hx => by
  rcases List.mem_cons.1 hx with rfl | hx
  ·exact ⟨rfl, fun i c u hc _ => by simp at hc⟩
  ·exact h.ok x hx, fun x hx k hk => by
  rcases List.mem_cons.1 hx with rfl | hx
  ·cases hk
  ·exact h.bnd x hx k hk, List.Pairwise.cons (fun x hx k hk => by cases hk) h.disj⟩
/-- One row more. -/
theorem St.stepsSnoc {w : World} {F : List Nat} {vs : List Value} {ss : List (List Int)} {b : Nat} {c : List Int} {e : TypeId} (h : St w0 O (stepsC F vs ss :: pt b (c.map (Value.int .i64)) e :: C) w) :
  St w0 O (stepsC (b :: F) (vs ++ [.slice (some ⟨b, 0, none⟩) c.length c.length]) (ss ++ [c]) :: C) w :=
 h.join (fun k hk => by
  rcases List.mem_cons.1 hk with rfl | hk
  ·exact .inr rfl
  ·exact .inl hk) (fun hc hd _ => by
  obtain ⟨h1, h2⟩ := hc
  have hd' : w.heap[b]? = some (.cells (c.map (Value.int .i64)).toArray e (0, 0)) := hd
  refine ⟨by simp [h1], fun i c' u hc' hu => ?_⟩
  by_cases hi : i < ss.length
  ·rw [List.getElem?_append_left hi] at hc'
   rw [List.getElem?_append_left (by omega)] at hu
   obtain ⟨a1, cap, h3, h4⟩ := h2 i c' u hc' hu
   refine ⟨a1, cap, h3, fun j x hx => ?_⟩
   obtain ⟨g, hg1, hg2, hg3⟩ := h4 j x hx
   exact ⟨g, hg1, List.mem_cons_of_mem _ hg2, hg3⟩
  ·rw [List.getElem?_append_right (by omega)] at hc'
   rw [List.getElem?_append_right (by omega)] at hu
   have h0 : i - ss.length = 0 := by
    have := (List.getElem?_eq_some_iff.1 hc').1
    simp at this; omega
   rw [h0] at hc'
   rw [h1, h0] at hu
   simp at hc' hu
   subst hc'; subst hu
   refine ⟨_, _, rfl, fun j x hx => ⟨b, rfl, List.mem_cons_self .., ?_⟩⟩
   simp [World.cell?, hd', hx])
end
end Go.Eng
namespace Go.Proofs.YtkgllhkhdjodeaaGreatDoor
open Go Go.Eng Go.Proofs
/-- The caller's clauses and the steps, behind one another in a row of headers. -/
theorem RdLL.join {w0 w : World} {C : List Chunk} {ls ss : List (List Int)} {a aa : Option Addr} {us vs hs : List Value} {F : List Nat} {n cap : Nat} (h : RdLL w0 ls a us) (hS : St w0 [] C w) (hhs : hs = us ++ vs) (hn : n = ls.length + ss.length)
  (h1 : rowc (.slice aa n cap) n 46 1 hs ∈ C) (h2 : stepsC F vs ss ∈ C) : RdLL w (ls ++ ss) aa hs := by
 have hn' := h.next hS
 have ho1 := hS.ok _ h1
 have ho2 := hS.ok _ h2
 obtain ⟨hv1, hv2⟩ := (show vs.length = ss.length ∧ _ from ho2)
 refine ⟨by rw [hhs, List.length_append, List.length_append, h.len, hv1], fun i u hu => ?_, fun i c u hc hu => ?_⟩
 ·have hpos : 0 < n := by
   have := (List.getElem?_eq_some_iff.1 hu).1
   rw [hhs, List.length_append, h.len, hv1] at this
   omega
  obtain ⟨g, hg, _, _⟩ := rowc_addr ho1 hpos
  subst hg
  exact ⟨g, 0, rfl, by rw [Nat.zero_add]; exact rowc_cell ho1 hu⟩
 ·subst hhs
  by_cases hi : i < ls.length
  ·rw [List.getElem?_append_left hi] at hc
   rw [List.getElem?_append_left (by rw [h.len]; exact hi)] at hu
   exact hn'.rd i c u hc hu
  ·rw [List.getElem?_append_right (by omega)] at hc
   rw [List.getElem?_append_right (by rw [h.len]; omega), h.len] at hu
   obtain ⟨a1, cap1, h3, h4⟩ := hv2 _ c u hc hu
   refine ⟨a1, cap1, h3, fun j x hx => ?_⟩
   obtain ⟨b, hb1, _, hb3⟩ := h4 j x hx
   exact ⟨b, 0, hb1, by rw [Nat.zero_add]; exact hb3⟩
end Go.Proofs.YtkgllhkhdjodeaaGreatDoor

namespace Go.Eng
open Go Go.RowKit
section
variable {P : Program} {w0 : World} {O : List Nat} {ops : Array Oper} {Q : Exit → Act → World → Prop} {N : Nat} {D : List Deferred} {L : FL} {C : List Chunk} {K : Act → World → Prop}
/-! the facts that the loads of a drawn region lean on, read off the state -/
def FactsOk (w0 : World) (O : List Nat) (L : FL) (C : List Chunk) (Fs : List (List Nat × (World → Prop))) : Prop := ∀ w, St w0 O C w → ∀ f ∈ Fs, f.2 w
def LoadOk (w0 : World) (O : List Nat) (L : FL) (C : List Chunk) (Y : World → Prop) : Prop := ∀ w, St w0 O C w → Y w
theorem FactsOk.nil : FactsOk w0 O L C [] := fun w hS f hf => by cases hf
theorem FactsOk.cons {ds : List Nat} {Y : World → Prop} {Fs : List (List Nat × (World → Prop))} (h : LoadOk w0 O L C Y) (hr : FactsOk w0 O L C Fs) : FactsOk w0 O L C ((ds, Y) :: Fs) := fun w hS f hf => by
 rcases List.mem_cons.1 hf with rfl | hf
 ·exact h w hS
 ·exact hr w hS f hf
theorem LoadOk.one {t b off : Nat} {cs : List Value} {e : TypeId} {v : Value} (hl : lk L t = some (.pointer (some ⟨b, 0, none⟩))) (hm : pt b cs e ∈ C) (hv : cs[off]? = some v) : LoadOk w0 O L C (fun w => w.cell? ⟨b, off, none⟩ = some v) :=
 fun w hS => hS.cell hm hv
theorem LoadOk.by {Y : World → Prop} (h : ∀ w, St w0 O C w → Y w) : LoadOk w0 O L C Y := h
theorem WC.drawsL {id : Nat} {l : List Oper} {Fs : List (List Nat × (World → Prop))} (hm : P.follows .mixedOrders = true) (hF : FactsOk w0 O L C Fs)
  (h : WD P w0 O l.toArray Q Fs l.length (Array.replicate l.length false) N D L C) : WC P w0 O (.region id l.toArray true) Q N D L C := WC.draws Fs hm hF h
theorem WQ.say {e : Exit} (i : Nat) (v : Value) (hv : lk L i = some v) (h : WQ w0 O Q e N D ((i, v) :: L) C) : WQ w0 O Q e N D L C := fun a w hF hS => h a w (hF.shadow hv) hS
end
end Go.Eng

namespace Fm
open Go Go.Eng
/-! ### the reference's view of a tree -/
mutual
def rowT : Tree → List Tree
 | .mk op name kids => .mk op name kids :: rowL kids
def rowL : List Tree → List Tree
 | [] => []
 | k :: ks => rowT k ++ rowL ks
end
mutual
def levT : Tree → Nat
 | .mk _ _ kids => levL kids + 1
def levL : List Tree → Nat
 | [] => 0
 | k :: ks => max (levT k) (levL ks)
end
/-- A node as the table of the reference says. -/
def oneB (t : Tree) : Bool :=
 if t.op = 3 then decide (t.kids.length = 0) && isNameB t.name
 else if t.name ≠ [] then false
 else if t.op = 1 ∨ t.op = 2 then decide (t.kids.length = 0)
 else if t.op = 4 then decide (t.kids.length = 1)
 else if t.op = 5 ∨ t.op = 6 ∨ t.op = 7 then decide (2 ≤ t.kids.length)
 else if t.op = 8 ∨ t.op = 9 then decide (t.kids.length = 2)
 else if t.op = 10 then decide (t.kids.length = 3) else false
def refValid (t : Tree) : Bool := (rowT t).all oneB && decide ((rowT t).length ≤ 1000) && decide (levT t ≤ 64)
end Fm

namespace Go.Eng
open Go Go.RowKit
/-! ### a world that keeps an older one -/
structure Ext (wb w : World) : Prop where
 size : wb.heap.size ≤ w.heap.size
 old : ∀ k, k < wb.heap.size → w.heap[k]? = wb.heap[k]?
theorem Ext.refl (w : World) : Ext w w := ⟨Nat.le_refl _, fun _ _ => rfl⟩
theorem Ext.st {wb w0 w : World} {C : List Chunk} (h : Ext wb w0) (hS : St w0 [] C w) : Ext wb w :=
 ⟨Nat.le_trans h.size hS.size, fun k hk => by rw [hS.old k (Nat.lt_of_lt_of_le hk h.size) (by simp)]; exact h.old k hk⟩
theorem Ext.cell {wb w : World} (h : Ext wb w) {p : Addr} {v : Value} (hc : wb.cell? p = some v) : w.cell? p = some v := by
 have := h.old p.block (World.block_lt_of_cell? wb p hc)
 rw [World.cell?_of_block (w := wb) (w' := w) this]; exact hc
section
variable {P : Program} {w0 : World} {O : List Nat} {ops : Array Oper} {Q : Exit → Act → World → Prop} {N : Nat} {D : List Deferred} {L : FL} {C : List Chunk} {K : Act → World → Prop}
variable {d : Nat} {ty : TypeId} {pos : String} {af : Array Edge}
end
/-! ### rows of nodes, each read in an older world -/
def NodesOk (wb : World) (ts : List Tree) (vs : List Value) : Prop := vs.length = ts.length ∧ ∀ (i : Nat) (t : Tree) (v : Value), ts[i]? = some t → vs[i]? = some v → ∃ F a c, v = tv t a c ∧ rdT wb t F (tv t a c)
theorem NodesOk.one {wb : World} {t : Tree} {F : List Nat} {a : Option Addr} {c : Nat} (h : rdT wb t F (tv t a c)) : NodesOk wb [t] [tv t a c] := by
 refine ⟨rfl, fun i t' v' h1 h2 => ?_⟩
 cases i with
 | zero => simp at h1 h2; subst h1; subst h2; exact ⟨F, a, c, rfl, h⟩
 | succ i => simp at h1
theorem NodesOk.append {wb : World} {ts us : List Tree} {vs ws : List Value} (h : NodesOk wb ts vs) (h' : NodesOk wb us ws) : NodesOk wb (ts ++ us) (vs ++ ws) := by
 refine ⟨by simp [h.1, h'.1], fun i t v h1 h2 => ?_⟩
 by_cases hi : i < ts.length
 ·rw [List.getElem?_append_left hi] at h1
  rw [List.getElem?_append_left (by rw [h.1]; exact hi)] at h2
  exact h.2 i t v h1 h2
 ·rw [List.getElem?_append_right (by omega)] at h1
  rw [List.getElem?_append_right (by rw [h.1]; omega), h.1] at h2
  exact h'.2 _ t v h1 h2
theorem NodesOk.at {wb : World} {ts : List Tree} {vs : List Value} {i : Nat} {t : Tree} (h : NodesOk wb ts vs) (hi : ts[i]? = some t) : ∃ F a c, vs[i]? = some (tv t a c) ∧ rdT wb t F (tv t a c) := by
 have hlt : i < vs.length := by rw [h.1]; exact (List.getElem?_eq_some_iff.1 hi).1
 obtain ⟨F, a, c, hv, hr⟩ := h.2 i t vs[i] hi (List.getElem?_eq_getElem hlt)
 exact ⟨F, a, c, by rw [← hv]; exact List.getElem?_eq_getElem hlt, hr⟩
theorem NodesOk.tail {wb : World} {t : Tree} {ts : List Tree} {v : Value} {vs : List Value} (h : NodesOk wb (t :: ts) (v :: vs)) : NodesOk wb ts vs :=
 ⟨by have := h.1; simpa using this, fun i t' v' h1 h2 => h.2 (i + 1) t' v' (by simpa using h1) (by simpa using h2)⟩
end Go.Eng
namespace Fm
open Go Go.Eng
end Fm

namespace Go.Proofs.YtkgllhkhdjodeaaGreatDoor
open Go Go.Eng Go.Proofs Go.ChangeShapes Go.WideShapes Go.ChangeAt Go.RowKit Go.ChangeMaps

/-! ### what came in is read again behind the call -/
def slicesPos (P : Program) : Bool := (List.range P.types.size).all fun t => match P.underlying t with
 | some (.slice e) => decide (0 < P.cellsOf e)
 | _ => true
theorem slices_pos {P : Program} (h : slicesPos P = true) {t e : TypeId} (ht : t < P.types.size) (hu : P.underlying t = some (.slice e)) : 0 < P.cellsOf e := by
 have := List.all_eq_true.1 h t (List.mem_range.2 ht)
 rw [hu] at this
 simpa using this
theorem try_laid : laidOutB Tryz.prog = true := by kernel_rfl
theorem try_maps : mapsRowed Tryz.prog = true := by kernel_rfl
theorem try_slices : slicesPos Tryz.prog = true := by kernel_rfl
theorem St.same {w w' : World} {C : List Chunk} (h : St w [] C w') (p : MemPlace) (hp : p.block < w.heap.size) : w.sameAt w' p := by
 have := h.old p.block hp (by simp)
 cases p with
 | cell b off => exact World.cell?_of_block (w := w) (w' := w') (a := ⟨b, off, none⟩) this
 | map b => exact this
theorem args_again {H : Type} {enc : TypeId × Value → H} {W W' : World} {C : List Chunk} (hS : St W [] C W') : ∀ {ts : List TypeId} {vs : List Value} {ds : List (DataW H)} {p : List MemPlace}, (∀ t ∈ ts, t < Tryz.prog.types.size) →
  DataW.TrodAll enc Tryz.prog W 0 (fun _ => true) true ts vs ds p → DataW.TrodAll enc Tryz.prog W' 0 (fun b => decide (b < W.heap.size)) true ts vs ds p
 | [], _, _, _, _, h => by
  obtain ⟨rfl, rfl, rfl⟩ := trodAll_nil h
  exact trodAll_mk0
 | t :: ts, _, _, _, ht, h => by
  obtain ⟨v, vs1, d, ds1, a, b, rfl, rfl, rfl, h1, h2⟩ := trodAll_cons h
  refine ⟨a, b, ?_, args_again hS (fun t' h' => ht t' (List.mem_cons_of_mem _ h')) h2, rfl⟩
  obtain ⟨n, hn⟩ := h1
  have hlt := DataW.trod_lt n t _ _ hn
  exact ⟨n, DataW.trod_stays (kids_rows try_laid try_maps) (fun h hu => slices_pos try_slices h hu) (fun h => by cases h) (ht t (List.mem_cons_self ..)) hn (fun p hp => St.same hS p (hlt p hp)) (fun p hp => by simpa using hlt p hp)⟩
/-- The row of a law that answers true and leaves what came in as it was. -/
theorem law_post' {H : Type} {enc : TypeId × Value → H} {f : Func} {s : ChangeSpec} {W W' : World} {args : Array Value} {ds : List (DataW H)} {before : List MemPlace} (hrt : f.resultTypes = #[4]) (hps : ∀ t ∈ f.params.toList, t < Tryz.prog.types.size) (hv : s.vars = [])
  (hW : DataW.Whole enc Tryz.prog f.params.toList s.vars false W args.toList ds [] before)
  (hr : (s.fn H ds).results = [.lit (.bool true)]) (ha : (s.fn H ds).args = ds) (hvs : (s.fn H ds).vars = []) (hS : St W [] [] W') :
  s.post enc Tryz.prog f false true false false W args (.bool true) W' := by
 have hW' := hW
 obtain ⟨p, q, hA, hV, rfl, _, _⟩ := hW
 refine ⟨ds, [], p ++ q, [], p, [], hW', ?_, ?_, ?_, St.kept hS, fun h => by cases h⟩
 ·rw [List.append_nil, hr, hrt]
  exact trodAll_mk1 ⟨1, by simp [DataW.trod, Value.cells]⟩
 ·rw [List.append_nil, ha]
  exact args_again hS hps hA
 ·rw [List.append_nil, hvs, hv]
  rfl

/-! ### a tree that came in -/
theorem cells5 : Tryz.prog.cellsOf 5 = 1 := by kernel_rfl
theorem cell_spot {w : World} {a : Addr} {u : Value} (h : w.cell? a = some u) : a.spot = none := by
 unfold World.cell? at h
 split at h
 ·split at h
  ·cases h
  ·rename_i hs
   cases hh : a.spot with
   | none => rfl
   | some x => rw [hh] at hs; simp at hs
 ·cases h
end Go.Proofs.YtkgllhkhdjodeaaGreatDoor

/-
 Openers of numbers, rows of numbers and rows of such rows that came in.
-/
namespace Go.Proofs.YtkgllhkhdjodeaaGreatDoor
open Go Go.Eng Go.Proofs Go.ChangeShapes Go.WideShapes Go.ChangeAt Go.RowKit Go.ChangeMaps

theorem und3' : Tryz.prog.underlying 3 = some (.int .i64) := by kernel_rfl
theorem und54' : Tryz.prog.underlying 46 = some (.slice 3) := by kernel_rfl
theorem und38' : Tryz.prog.underlying 23 = some (.slice 46) := by kernel_rfl
theorem cells3' : Tryz.prog.cellsOf 3 = 1 := by kernel_rfl
theorem cells54' : Tryz.prog.cellsOf 46 = 1 := by kernel_rfl
section
variable {H : Type} {enc : TypeId × Value → H} {W : World} {base : Nat} {held : Bool}
set_option maxRecDepth 100000 in
theorem open_i64 {sp : Nat → Bool} {v : Value} {d : DataW H} {p : List MemPlace} (hv : Value.okWide Tryz.prog W .any base 3 v) (h : DataW.Trod enc Tryz.prog W 0 sp held 3 v d p) :
  ∃ n : Int, v = .int .i64 n ∧ -9223372036854775808 ≤ n ∧ n < 9223372036854775808 := by
 obtain ⟨n, h1, _, _, h4⟩ := open_int und3' hv h
 refine ⟨n, h1, ?_⟩
 have e1 : IntKind.i64.min = -9223372036854775808 := by decide
 have e2 : IntKind.i64.max = 9223372036854775807 := by decide
 simp [Lit.wf, e1, e2] at h4
 omega
theorem rdC_of {c : List Int} {a : Addr} (h : ∀ i, i < c.length → W.cell? (a.add i) = some (.int .i64 (c.getD i 0))) : RdC W c (some a) := by
 intro j x hx
 have hlt := (List.getElem?_eq_some_iff.1 hx).1
 have h1 := h j hlt
 have hs := cell_spot (h 0 (by omega))
 have ha0 : a.add 0 = a := by simp [Addr.add]
 rw [ha0] at hs
 obtain ⟨b, off, spot⟩ := a
 simp only at hs
 subst hs
 rw [add_blk] at h1
 refine ⟨b, off, rfl, ?_⟩
 rw [h1, List.getD_eq_getElem?_getD, hx]; rfl
set_option maxRecDepth 100000 in
theorem open_ll {v : Value} {d : DataW H} {p : List MemPlace} (hv : Value.okWide Tryz.prog W .any base 23 v) (h : DataW.Trod enc Tryz.prog W 0 (fun _ => true) held 23 v d p) :
  ∃ (l : List (List Int)) (a : Option Addr) (k : Nat) (us : List Value), v = .slice a l.length k ∧ RdLL W l a us := by
 obtain ⟨a, len, cap, rfl⟩ := okWide_slice und38' hv
 obtain ⟨fuel, hf⟩ := h
 rcases Go.Deep.open_int_rows und38' und54' und3' cells54' cells3' hf with ⟨h1, _⟩ | ⟨a', len', cap', A, L, C, Z, h1, _, hl, _, _, hcell⟩
 ·simp [Value.cells] at h1
  obtain ⟨rfl, rfl, rfl⟩ := h1
  exact ⟨[], none, 0, [], rfl, ⟨rfl, fun i u hu => by simp at hu, fun i c u hc => by simp at hc⟩⟩
 ·simp [Value.cells] at h1
  obtain ⟨rfl, rfl, rfl⟩ := h1
  refine ⟨(List.range len).map fun r => (Z r).take (L r), some a', cap, (List.range len).map fun r => .slice (A r) (L r) (C r), by simp, ⟨by simp, fun i u hu => ?_, fun i c u hc hu => ?_⟩⟩
  ·have hi : i < len := by simpa using (List.getElem?_eq_some_iff.1 hu).1
   obtain ⟨h2, _⟩ := hcell i (by omega)
   have hs := cell_spot (hcell 0 (by omega)).1
   have ha0 : a'.add 0 = a' := by simp [Addr.add]
   rw [ha0] at hs
   obtain ⟨b, off, spot⟩ := a'
   simp only at hs
   subst hs
   rw [add_blk] at h2
   refine ⟨b, off, rfl, ?_⟩
   rw [h2, ← hu]
   simp [hi]
  ·have hi : i < len := by simpa using (List.getElem?_eq_some_iff.1 hc).1
   obtain ⟨_, h3, _, h5, _, h7, h8⟩ := hcell i (by omega)
   simp [hi] at hc hu
   subst hc; subst hu
   refine ⟨A i, C i, by simp; omega, ?_⟩
   cases hA : A i with
   | none =>
    have := h7 hA
    intro j x hx
    have := (List.getElem?_eq_some_iff.1 hx).1
    simp at this; omega
   | some a'' =>
    refine rdC_of fun j hj => ?_
    have hj' : j < L i ∧ j < (Z i).length := by (rw [List.length_take] at hj; omega)
    rw [(h8 a'' hA).2 j (by omega), List.getD_eq_getElem?_getD, List.getD_eq_getElem?_getD, List.getElem?_take_of_lt hj'.1]
end
end Go.Proofs.YtkgllhkhdjodeaaGreatDoor

/-
 More openers: a slice's address; numbers of 32 bits.
-/
namespace Go.Proofs.YtkgllhkhdjodeaaGreatDoor
open Go Go.Eng Go.Proofs Go.ChangeShapes Go.WideShapes Go.ChangeAt Go.RowKit Go.ChangeMaps
set_option maxRecDepth 100000 in
theorem slice_addr {W : World} {base : Nat} {t e : TypeId} {a : Option Addr} {n c : Nat} (hu : Tryz.prog.underlying t = some (.slice e)) (hv : Value.okWide Tryz.prog W .any base t (.slice a n c)) : a = none ∨ ∃ b off, a = some ⟨b, off, none⟩ := by
 cases a with
 | none => exact .inl rfl
 | some a =>
  unfold Value.okWide at hv
  simp only [hu, Cell.okWide, Cell.ok, World.has] at hv
  obtain ⟨b, off, st⟩ := a
  have := hv.2.2.2.1
  simp only at this
  subst this
  exact .inr ⟨b, off, rfl⟩
end Go.Proofs.YtkgllhkhdjodeaaGreatDoor

namespace Fm
open Go Go.Eng
/-! ### consequences -/
/-- What follows from clauses and literals. -/
inductive Der (ls : List (List Int)) (fixed : List Int) : Int → Prop
 | fix {x : Int} (h : x ∈ fixed) : Der ls fixed x
 | unit {c : List Int} {x : Int} (hc : c ∈ ls) (hx : x ∈ c) (h : ∀ m ∈ c, m ≠ x → Der ls fixed (-m)) : Der ls fixed x
/-- There is a conflict. -/
def Conf (ls : List (List Int)) (fixed : List Int) : Prop := [] ∈ ls ∨ ∃ x, Der ls fixed x ∧ Der ls fixed (-x)

/-! the program's sets of literals -/
theorem hasK_with {k : Kn} {l z : Int} (hl : l ≠ 0) (hz : z ≠ 0) : hasK (withK k l) z = (decide (z = l) || hasK k z) := by
 unfold hasK withK
 by_cases h1 : 0 < l
 ·rw [if_pos h1]
  by_cases h2 : 0 < z
  ·rw [if_pos h2, if_pos h2]
   simp only [Nat.testBit_or, Nat.testBit_two_pow]
   rw [Bool.or_comm]
   congr 1
   rw [Bool.eq_iff_iff]; simp; omega
  ·rw [if_neg h2, if_neg h2]
   have : ¬ z = l := by omega
   simp [this]
 ·rw [if_neg h1]
  by_cases h2 : 0 < z
  ·rw [if_pos h2, if_pos h2]
   have : ¬ z = l := by omega
   simp [this]
  ·rw [if_neg h2, if_neg h2]
   simp only [Nat.testBit_or, Nat.testBit_two_pow]
   rw [Bool.or_comm]
   congr 1
   rw [Bool.eq_iff_iff]; simp; omega
theorem clash_iff {k : Kn} : clash k = true ↔ ∃ z : Int, 0 < z ∧ hasK k z = true ∧ hasK k (-z) = true := by
 unfold clash
 constructor
 ·intro h
  have h1 : k.1 &&& k.2 ≠ 0 := by simpa using h
  obtain ⟨j, hj⟩ := Nat.exists_testBit_of_ne_zero h1
  rw [Nat.testBit_and, Bool.and_eq_true] at hj
  refine ⟨(j : Int) + 1, by omega, ?_, ?_⟩
  ·unfold hasK; rw [if_pos (by omega), show ((j : Int) + 1 - 1).toNat = j by omega]; exact hj.1
  ·unfold hasK; rw [if_neg (by omega), show (-(-((j : Int) + 1)) - 1).toNat = j by omega]; exact hj.2
 ·rintro ⟨z, hz, h1, h2⟩
  unfold hasK at h1 h2
  rw [if_pos hz] at h1
  rw [if_neg (by omega)] at h2
  rw [show (- -z - 1).toNat = (z - 1).toNat by omega] at h2
  have h3 : (k.1 &&& k.2).testBit (z - 1).toNat = true := by rw [Nat.testBit_and, h1, h2]; rfl
  have h4 : k.1 &&& k.2 ≠ 0 := by intro h0; rw [h0] at h3; simp at h3
  simpa using h4

/-- What unit says: a literal that is open, all the others being false; 0: all are. -/
theorem unitG_true {k : Kn} : ∀ {c : List Int} {op x : Int}, (∀ m ∈ c, m ≠ 0) → unitG k op c = (x, true) → (∀ m ∈ c, hasK k m = false ∧ (hasK k (-m) = true ∨ m = x)) ∧ (op ≠ 0 → x = op) ∧ (x ≠ 0 → x = op ∨ x ∈ c)
 | [], op, x, _, h => by
  simp only [unitG, Prod.mk.injEq, and_true] at h
  subst h
  exact ⟨fun m hm => (by cases hm), fun _ => rfl, fun _ => .inl rfl⟩
 | l :: ls, op, x, h0, h => by
  have hl := h0 l (List.mem_cons_self ..)
  have hls := fun m hm => h0 m (List.mem_cons_of_mem _ hm)
  simp only [unitG] at h
  split at h
  ·simp at h
  rename_i h1
  split at h
  ·rename_i h2
   obtain ⟨i1, i2, i3⟩ := unitG_true hls h
   refine ⟨fun m hm => ?_, i2, fun hx => ?_⟩
   ·rcases List.mem_cons.1 hm with e | hm
    ·subst e
     refine ⟨by simpa using h1, ?_⟩
     simp only [Bool.or_eq_true, beq_iff_eq] at h2
     rcases h2 with h2 | h2
     ·exact .inl h2
     ·exact .inr (by rw [h2, i2 (by rw [← h2]; exact hl)])
    ·exact i1 m hm
   ·rcases i3 hx with h3 | h3
    ·exact .inl h3
    ·exact .inr (List.mem_cons_of_mem _ h3)
  rename_i h2
  split at h
  ·simp at h
  rename_i h3
  have h3' : op = 0 := by simpa using h3
  obtain ⟨i1, i2, i3⟩ := unitG_true hls h
  refine ⟨fun m hm => ?_, fun h0 => absurd h3' h0, fun hx => ?_⟩
  ·rcases List.mem_cons.1 hm with e | hm
   ·subst e
    exact ⟨by simpa using h1, .inr (i2 hl).symm⟩
   ·exact i1 m hm
  ·exact .inr (by rw [i2 hl]; exact List.mem_cons_self ..)
/-- Whatever the set has follows. -/
def SoundK (ls : List (List Int)) (fixed : List Int) (k : Kn) : Prop := ∀ z : Int, z ≠ 0 → hasK k z = true → Der ls fixed z
theorem SoundK.unit {ls : List (List Int)} {fixed : List Int} {k : Kn} {c : List Int} (h : SoundK ls fixed k) (hc : c ∈ ls) (hn : ∀ m ∈ c, m ≠ 0) {x : Int} (hu : unitK k c = (x, true)) : (x ≠ 0 → SoundK ls fixed (withK k x)) ∧ (x = 0 → Conf ls fixed) := by
 obtain ⟨i1, i2, i3⟩ := unitG_true hn hu
 refine ⟨fun hx z hz hh => ?_, fun hx => ?_⟩
 ·rw [hasK_with hx hz] at hh
  simp only [Bool.or_eq_true, decide_eq_true_eq] at hh
  rcases hh with hh | hh
  ·subst hh
   rcases i3 hx with h3 | h3
   ·exact absurd h3 hx
   ·exact .unit hc h3 (fun m hm hne => by
     rcases (i1 m hm).2 with h4 | h4
     ·exact h _ (by have := hn m hm; omega) h4
     ·exact absurd h4 hne)
  ·exact h z hz hh
 ·cases c with
  | nil => exact .inl hc
  | cons y r =>
   have hf : ∀ m ∈ y :: r, hasK k (-m) = true := fun m hm => by
    rcases (i1 m hm).2 with h4 | h4
    ·exact h4
    ·exact absurd (h4.trans hx) (hn m hm)
   have hy := List.mem_cons_self (a := y) (l := r)
   refine .inr ⟨y, .unit hc hy (fun m hm _ => h _ (by have := hn m hm; omega) (hf m hm)), h _ (by have := hn y hy; omega) (hf y hy)⟩
theorem SoundK.clash {ls : List (List Int)} {fixed : List Int} {k : Kn} (h : SoundK ls fixed k) (hc : clash k = true) : Conf ls fixed := by
 obtain ⟨z, hz, h1, h2⟩ := clash_iff.1 hc
 exact .inr ⟨z, h z (by omega) h1, h (-z) (by omega) h2⟩
end Fm

namespace Fm
open Go Go.Eng
/-! ### the reference's consequences -/
def aloneB (c out : List Int) (x : Int) : Bool := !out.contains x && c.all (fun m => m == x || out.contains (-m))
def stepL (c out : List Int) (x : Int) : List Int := if aloneB c out x then out ++ [x] else out
def passC (out c : List Int) : List Int := c.foldl (stepL c) out
def consPass (ls : List (List Int)) (out : List Int) : List Int := ls.foldl passC out
def consF : Nat → List (List Int) → List Int → Option (List Int)
 | 0, _, _ => none
 | n + 1, ls, out => if (consPass ls out).length = out.length then some (consPass ls out) else consF n ls (consPass ls out)
/-- The reference's conflict. -/
def conflictB (ls : List (List Int)) (out : List Int) : Bool := ls.any (·.isEmpty) || out.any (fun x => out.contains (-x))
/-! ### that they end -/
def Rg : List Int := (List.range 65).map fun (i : Nat) => (i : Int) - 32
def openC (p : Int → Bool) : Nat := (Rg.filter p).length
def openL (out : List Int) : Nat := openC fun z => !out.contains z
def openKn (k : Kn) : Nat := openC fun z => z != 0 && !hasK k z
end Fm
